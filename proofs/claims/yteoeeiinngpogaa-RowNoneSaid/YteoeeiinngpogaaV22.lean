/- Law 6: RowPlays. -/
import Derived.Test.YteoeeiinngpogaaV21
namespace Go.Proofs.Yteoeeiinngpogaa
open Go.RowKit Go.Mem Go.Cells
variable {W w : World} {H : List HProp}
attribute [local irreducible] World.setCell World.setCells World.alloc World.drew World.drewN Calls sat cel own blk old wpQuiet wpList cmb cmb1 rwP cls rws wi wh fst_ World.rangeAt
theorem plays5_no {aS : Option Addr} {nS cS : Nat} {cols : Int} (h : ¬ (1 ≤ cols ∧ cols ≤ 512)) (hs : sat W H w) : Calls Try.prog 5 #[.int .i64 cols, .slice aS nS cS] w fun e w' => e = .returned (.bool true) ∧ sat W H w' := by
  have HH := Lib.hid h
  have HMY : Hid (decide (1 ≤ cols ∧ cols ≤ 512) = false) := Lib.hid (decide_eq_false h)
  clear h
  go_enter Try.func5, Try.ntmps5
  go_wp2_with (first | (go_at_call 7; refine (new7_no HH.out hs).mono ?_; clear hs; rintro e w ⟨rfl, hs⟩) | (go_at_call 19; refine (may19 hs).mono ?_; clear hs; rintro e w ⟨rfl, hs⟩; rw [HMY.out]) | (go_at_call 8; refine (known8 hs).mono ?_; clear hs; rintro e w ⟨rfl, hs⟩) | ((with_reducible refine isl ?_); first | ((with_reducible refine wrap hs ?_); clear hs; intro w hs) | ((with_reducible refine wrapn hs ?_); clear hs; intro w hs) | ((with_reducible refine wrapd hs ?_); clear hs; intro w hs)))
  go_ret
  exact ⟨rfl, hs⟩
theorem plays5_long {aS : Option Addr} {nS cS c0 : Nat} (h0 : 1 ≤ c0) (h1 : c0 ≤ 512) (hl : 60 < nS ∨ 100 < c0) (hs : sat W H w) : Calls Try.prog 5 #[.int .i64 (c0 : Int), .slice aS nS cS] w fun e w' => e = .returned (.bool true) ∧ sat W H w' := by
  have HMY : Hid (decide (1 ≤ (c0 : Int) ∧ (c0 : Int) ≤ 512) = true) := Lib.hid (decide_eq_true (by omega))
  by_cases hl1 : 60 < nS
  · have q1 : decide ((60 : Int) < (nS : Int)) = true := decide_eq_true (by omega)
    clear hl
    go_enter Try.func5, Try.ntmps5
    go_wp2_with (first | (go_at_call 7; refine (new7 h0 h1 hs).mono ?_; clear hs; rintro e w ⟨b, rfl, hs⟩) | (go_at_call 19; refine (may19 hs).mono ?_; clear hs; rintro e w ⟨rfl, hs⟩; rw [HMY.out]) | (go_at_call 8; refine (known8 hs).mono ?_; clear hs; rintro e w ⟨rfl, hs⟩) | ((with_reducible refine isl ?_); first | ((with_reducible refine wrap hs ?_); clear hs; intro w hs) | ((with_reducible refine wrapn hs ?_); clear hs; intro w hs) | ((with_reducible refine wrapd hs ?_); clear hs; intro w hs)))
    go_ret
    exact ⟨rfl, hs.drop⟩
  · have q1 : decide ((60 : Int) < (nS : Int)) = false := decide_eq_false (by omega)
    have q2 : decide ((100 : Int) < (c0 : Int)) = true := decide_eq_true (by omega)
    clear hl hl1
    go_enter Try.func5, Try.ntmps5
    go_wp2_with (first | (go_at_call 7; refine (new7 h0 h1 hs).mono ?_; clear hs; rintro e w ⟨b, rfl, hs⟩) | (go_at_call 19; refine (may19 hs).mono ?_; clear hs; rintro e w ⟨rfl, hs⟩; rw [HMY.out]) | (go_at_call 8; refine (known8 hs).mono ?_; clear hs; rintro e w ⟨rfl, hs⟩) | ((with_reducible refine isl ?_); first | ((with_reducible refine wrap hs ?_); clear hs; intro w hs) | ((with_reducible refine wrapn hs ?_); clear hs; intro w hs) | ((with_reducible refine wrapd hs ?_); clear hs; intro w hs)))
    go_ret
    exact ⟨rfl, hs.drop⟩
set_option maxHeartbeats 2000000 in
set_option maxRecDepth 8000 in
theorem plays5_go {aS : Option Addr} {nS cS c0 : Nat} {l : List Op} (h0 : 1 ≤ c0) (h1 : c0 ≤ 100) (hl : nS ≤ 60) (S : SR 8 W H aS nS cS (l.map opL)) (hs : sat W H w) : Calls Try.prog 5 #[.int .i64 (c0 : Int), .slice aS nS cS] w fun e w' => e = .returned (.bool true) ∧ sat W H w' := by
  have HMY : Hid (decide (1 ≤ (c0 : Int) ∧ (c0 : Int) ≤ 512) = true) := Lib.hid (decide_eq_true (by omega))
  have q1 : decide ((60 : Int) < (nS : Int)) = false := decide_eq_false (by omega)
  have q2 : decide ((100 : Int) < (c0 : Int)) = false := decide_eq_false (by omega)
  have h512 : c0 ≤ 512 := by omega
  have HS := Lib.hid S
  have HL := Lib.hid hl
  have hmax : (nS : Int) ≤ 9223372036854775807 := by omega
  clear S hl h1
  go_enter Try.func5, Try.ntmps5
  go_wp2_with (first | (go_at_call 7; refine (new7 h0 h512 hs).mono ?_; clear hs; rintro e w ⟨b, rfl, hs⟩) | (go_at_call 19; refine (may19 hs).mono ?_; clear hs; rintro e w ⟨rfl, hs⟩; rw [HMY.out]) | (go_at_call 9; refine (rnew9 h512 hs).mono ?_; clear hs; rintro e w ⟨b2, rfl, hs⟩) | ((with_reducible refine isl ?_); first | ((with_reducible refine wrap hs ?_); clear hs; intro w hs) | ((with_reducible refine wrapn hs ?_); clear hs; intro w hs) | ((with_reducible refine wrapd hs ?_); clear hs; intro w hs)))
  go_loopw [46, 5] (fun i rp wx => ∃ (i0 : Nat) (ls : List C) (n b : Nat), i0 ≤ nS ∧ i = .int .i64 (i0 : Int) ∧ rp = .pointer (some ⟨b, 0, none⟩) ∧ Hid (ls.length = n) ∧ Hid (Ok ls) ∧ 0 < n ∧ n ≤ 512 ∧ sat W (rwP 55 b ls :: rwP 68 b2 ls :: H) wx) (fun i _ _ => ((nS : Int) - intOf i).toNat)
  case atStart => exact ⟨0, _, c0, b, Nat.zero_le _, rfl, rfl, Lib.hid (List.length_replicate ..), Lib.hid (Ok.blanks _ _), by omega, h512, by refine sb_from ?_ hs; repeat constructor⟩
  case round =>
    clear hs HMY
    obtain ⟨i0, ls, n, b, hi, rfl, rfl, HN, HOK, hn0, hn1, hs⟩ := hrel
    by_cases hin : i0 < nS
    · obtain ⟨⟨kind, col, q, r, wide, ⟨fg, bg, fl⟩⟩, _, g1, o1, rfl, hcc⟩ := HS.out.getm (hs.dropN 2) hin
      have HCC := Lib.hid hcc
      clear hcc
      have hin2 : (i0 : Int) < (nS : Int) := by omega
      by_cases k6 : kind = 6
      · subst k6
        by_cases hq : 100 < q
        · have g1 : decide (100 < q) = true := decide_eq_true hq
          by_cases hq2 : 1 ≤ q ∧ q ≤ 512
          · have HMY : Hid (decide (1 ≤ q ∧ q ≤ 512) = true) := Lib.hid (decide_eq_true hq2)
            clear hq hq2
            go_wp2_with (first | (go_at_call 19; refine (may19 hs).mono ?_; clear hs; rintro e w ⟨rfl, hs⟩; rw [HMY.out]) | ((with_reducible refine isl ?_); first | ((with_reducible apply ldsc (cs := opL ⟨6, col, q, r, wide, ⟨fg, bg, fl⟩⟩)); exact rfl; exact rfl; exact rfl; exact HCC.out _ (hs.dropN 2); exact row35) | ((with_reducible refine wrap hs ?_); clear hs; generalize wr.heap.size = z9; intro w hs) | ((with_reducible apply stsw hs.b0); exact rfl; exact rfl; exact rfl; exact rfl; exact row35; exact rfl; exact rfl; exact rfl; clear hs; intro w hs) | ((with_reducible apply ld hs.b0); exact rfl; exact rfl; exact rfl; exact rfl; kernel_rfl) | ((with_reducible apply ld hs.b1); exact rfl; exact rfl; exact rfl; exact rfl; kernel_rfl) | ((with_reducible apply ld hs.b2); exact rfl; exact rfl; exact rfl; exact rfl; kernel_rfl) | ((with_reducible apply ld hs.b3); exact rfl; exact rfl; exact rfl; exact rfl; kernel_rfl) | ((with_reducible apply ld hs.b4); exact rfl; exact rfl; exact rfl; exact rfl; kernel_rfl) | ((with_reducible apply st hs.b0); exact rfl; exact rfl; exact rfl; exact rfl; exact rfl; exact rfl; kernel_rfl; exact rfl; clear hs; intro w hs) | ((with_reducible apply st hs.b1); exact rfl; exact rfl; exact rfl; exact rfl; exact rfl; exact rfl; kernel_rfl; exact rfl; clear hs; intro w hs) | ((with_reducible apply st hs.b2); exact rfl; exact rfl; exact rfl; exact rfl; exact rfl; exact rfl; kernel_rfl; exact rfl; clear hs; intro w hs) | ((with_reducible apply st hs.b3); exact rfl; exact rfl; exact rfl; exact rfl; exact rfl; exact rfl; kernel_rfl; exact rfl; clear hs; intro w hs) | ((with_reducible apply st hs.b4); exact rfl; exact rfl; exact rfl; exact rfl; exact rfl; exact rfl; kernel_rfl; exact rfl; clear hs; intro w hs) | ((with_reducible apply stc hs.b0); exact rfl; exact rfl; exact rfl; exact rfl; exact rfl; kernel_rfl; exact rfl; clear hs; intro w hs) | ((with_reducible apply stc hs.b1); exact rfl; exact rfl; exact rfl; exact rfl; exact rfl; kernel_rfl; exact rfl; clear hs; intro w hs) | ((with_reducible apply stc hs.b2); exact rfl; exact rfl; exact rfl; exact rfl; exact rfl; kernel_rfl; exact rfl; clear hs; intro w hs) | ((with_reducible apply stc hs.b3); exact rfl; exact rfl; exact rfl; exact rfl; exact rfl; kernel_rfl; exact rfl; clear hs; intro w hs) | ((with_reducible apply stc hs.b4); exact rfl; exact rfl; exact rfl; exact rfl; exact rfl; kernel_rfl; exact rfl; clear hs; intro w hs) | ((with_reducible refine wrap hs ?_); clear hs; intro w hs) | ((with_reducible refine wrapn hs ?_); clear hs; intro w hs) | ((with_reducible refine wrapd hs ?_); clear hs; intro w hs)))
            go_roundw
            case rel => exact ⟨i0 + 1, ls, n, b, by omega, by go_num, rfl, HN, HOK, hn0, hn1, by refine sb_from ?_ hs; repeat constructor⟩
            case measure => simp [intOf]; omega
          · have HMY : Hid (decide (1 ≤ q ∧ q ≤ 512) = false) := Lib.hid (decide_eq_false hq2)
            obtain ⟨L2, hL2⟩ : ∃ L, (doG ls ⟨6, col, q, r, wide, ⟨fg, bg, fl⟩⟩).1 = L := ⟨_, rfl⟩
            have HD := Lib.hid hL2
            have HOK2 : Hid (Ok L2) := Lib.hid (by rw [← hL2]; exact doG_ok HOK.out _)
            obtain ⟨m, hm⟩ : ∃ m, L2.length = m := ⟨_, rfl⟩
            have hmm : 0 < m ∧ m ≤ 512 := by
              rw [← hm, ← hL2, doG_len HOK.out]
              split
              · simp only at *; omega
              · rw [HN.out]; omega
            obtain ⟨hm0, hm1⟩ := hmm
            have HN2 := Lib.hid hm
            clear hL2 hm
            clear hq hq2
            go_wp2_with (first | (go_at_call 19; refine (may19 hs).mono ?_; clear hs; rintro e w ⟨rfl, hs⟩; rw [HMY.out]) | (go_at_call 10; refine (do10 (o := ⟨6, col, q, r, wide, ⟨fg, bg, fl⟩⟩) HN.out hn0 hn1 HOK.out HN.out hn0 hn1 HOK.out (by apply sk_from (hs := hs); repeat constructor)).mono ?_; clear hs; rintro e w ⟨v, rfl, hv, hs⟩; obtain rfl := hv rfl; clear hv; rw [HD.out] at hs) | (go_at_call 24; refine (same24 HN2.out hm0 hm1 HOK2.out (by apply sk_from (hs := hs); repeat constructor)).mono ?_; clear hs; rintro e w ⟨rfl, hs⟩) | ((with_reducible refine isl ?_); first | ((with_reducible apply ldsc (cs := opL ⟨6, col, q, r, wide, ⟨fg, bg, fl⟩⟩)); exact rfl; exact rfl; exact rfl; exact HCC.out _ (hs.dropN 2); exact row35) | ((with_reducible refine wrap hs ?_); clear hs; generalize wr.heap.size = z9; intro w hs) | ((with_reducible apply stsw hs.b0); exact rfl; exact rfl; exact rfl; exact rfl; exact row35; exact rfl; exact rfl; exact rfl; clear hs; intro w hs) | ((with_reducible apply lds 8 hs.b0); exact rfl; exact rfl; exact rfl; exact row35; exact rfl; exact rfl) | ((with_reducible apply lds 8 hs.b1); exact rfl; exact rfl; exact rfl; exact row35; exact rfl; exact rfl) | ((with_reducible apply lds 8 hs.b2); exact rfl; exact rfl; exact rfl; exact row35; exact rfl; exact rfl) | ((with_reducible apply ld hs.b0); exact rfl; exact rfl; exact rfl; exact rfl; kernel_rfl) | ((with_reducible apply ld hs.b1); exact rfl; exact rfl; exact rfl; exact rfl; kernel_rfl) | ((with_reducible apply ld hs.b2); exact rfl; exact rfl; exact rfl; exact rfl; kernel_rfl) | ((with_reducible apply ld hs.b3); exact rfl; exact rfl; exact rfl; exact rfl; kernel_rfl) | ((with_reducible apply ld hs.b4); exact rfl; exact rfl; exact rfl; exact rfl; kernel_rfl) | ((with_reducible apply st hs.b0); exact rfl; exact rfl; exact rfl; exact rfl; exact rfl; exact rfl; kernel_rfl; exact rfl; clear hs; intro w hs) | ((with_reducible apply st hs.b1); exact rfl; exact rfl; exact rfl; exact rfl; exact rfl; exact rfl; kernel_rfl; exact rfl; clear hs; intro w hs) | ((with_reducible apply st hs.b2); exact rfl; exact rfl; exact rfl; exact rfl; exact rfl; exact rfl; kernel_rfl; exact rfl; clear hs; intro w hs) | ((with_reducible apply st hs.b3); exact rfl; exact rfl; exact rfl; exact rfl; exact rfl; exact rfl; kernel_rfl; exact rfl; clear hs; intro w hs) | ((with_reducible apply st hs.b4); exact rfl; exact rfl; exact rfl; exact rfl; exact rfl; exact rfl; kernel_rfl; exact rfl; clear hs; intro w hs) | ((with_reducible apply stc hs.b0); exact rfl; exact rfl; exact rfl; exact rfl; exact rfl; kernel_rfl; exact rfl; clear hs; intro w hs) | ((with_reducible apply stc hs.b1); exact rfl; exact rfl; exact rfl; exact rfl; exact rfl; kernel_rfl; exact rfl; clear hs; intro w hs) | ((with_reducible apply stc hs.b2); exact rfl; exact rfl; exact rfl; exact rfl; exact rfl; kernel_rfl; exact rfl; clear hs; intro w hs) | ((with_reducible apply stc hs.b3); exact rfl; exact rfl; exact rfl; exact rfl; exact rfl; kernel_rfl; exact rfl; clear hs; intro w hs) | ((with_reducible apply stc hs.b4); exact rfl; exact rfl; exact rfl; exact rfl; exact rfl; kernel_rfl; exact rfl; clear hs; intro w hs) | ((with_reducible refine wrap hs ?_); clear hs; intro w hs) | ((with_reducible refine wrapn hs ?_); clear hs; intro w hs) | ((with_reducible refine wrapd hs ?_); clear hs; intro w hs)))
            go_roundw
            case rel => exact ⟨i0 + 1, L2, m, b, by omega, by go_num, rfl, HN2, HOK2, hm0, hm1, by refine sb_from ?_ hs; repeat constructor⟩
            case measure => simp [intOf]; omega
        · have g1 : decide (100 < q) = false := decide_eq_false hq
          obtain ⟨L2, hL2⟩ : ∃ L, (doG ls ⟨6, col, q, r, wide, ⟨fg, bg, fl⟩⟩).1 = L := ⟨_, rfl⟩
          have HD := Lib.hid hL2
          have HOK2 : Hid (Ok L2) := Lib.hid (by rw [← hL2]; exact doG_ok HOK.out _)
          obtain ⟨m, hm⟩ : ∃ m, L2.length = m := ⟨_, rfl⟩
          have hmm : 0 < m ∧ m ≤ 512 := by
            rw [← hm, ← hL2, doG_len HOK.out]
            split
            · simp only at *; omega
            · rw [HN.out]; omega
          obtain ⟨hm0, hm1⟩ := hmm
          have HN2 := Lib.hid hm
          clear hL2 hm
          clear hq
          go_wp2_with (first | (go_at_call 10; refine (do10 (o := ⟨6, col, q, r, wide, ⟨fg, bg, fl⟩⟩) HN.out hn0 hn1 HOK.out HN.out hn0 hn1 HOK.out (by apply sk_from (hs := hs); repeat constructor)).mono ?_; clear hs; rintro e w ⟨v, rfl, hv, hs⟩; obtain rfl := hv rfl; clear hv; rw [HD.out] at hs) | (go_at_call 24; refine (same24 HN2.out hm0 hm1 HOK2.out (by apply sk_from (hs := hs); repeat constructor)).mono ?_; clear hs; rintro e w ⟨rfl, hs⟩) | ((with_reducible refine isl ?_); first | ((with_reducible apply ldsc (cs := opL ⟨6, col, q, r, wide, ⟨fg, bg, fl⟩⟩)); exact rfl; exact rfl; exact rfl; exact HCC.out _ (hs.dropN 2); exact row35) | ((with_reducible refine wrap hs ?_); clear hs; generalize wr.heap.size = z9; intro w hs) | ((with_reducible apply stsw hs.b0); exact rfl; exact rfl; exact rfl; exact rfl; exact row35; exact rfl; exact rfl; exact rfl; clear hs; intro w hs) | ((with_reducible apply lds 8 hs.b0); exact rfl; exact rfl; exact rfl; exact row35; exact rfl; exact rfl) | ((with_reducible apply lds 8 hs.b1); exact rfl; exact rfl; exact rfl; exact row35; exact rfl; exact rfl) | ((with_reducible apply lds 8 hs.b2); exact rfl; exact rfl; exact rfl; exact row35; exact rfl; exact rfl) | ((with_reducible apply ld hs.b0); exact rfl; exact rfl; exact rfl; exact rfl; kernel_rfl) | ((with_reducible apply ld hs.b1); exact rfl; exact rfl; exact rfl; exact rfl; kernel_rfl) | ((with_reducible apply ld hs.b2); exact rfl; exact rfl; exact rfl; exact rfl; kernel_rfl) | ((with_reducible apply ld hs.b3); exact rfl; exact rfl; exact rfl; exact rfl; kernel_rfl) | ((with_reducible apply ld hs.b4); exact rfl; exact rfl; exact rfl; exact rfl; kernel_rfl) | ((with_reducible apply st hs.b0); exact rfl; exact rfl; exact rfl; exact rfl; exact rfl; exact rfl; kernel_rfl; exact rfl; clear hs; intro w hs) | ((with_reducible apply st hs.b1); exact rfl; exact rfl; exact rfl; exact rfl; exact rfl; exact rfl; kernel_rfl; exact rfl; clear hs; intro w hs) | ((with_reducible apply st hs.b2); exact rfl; exact rfl; exact rfl; exact rfl; exact rfl; exact rfl; kernel_rfl; exact rfl; clear hs; intro w hs) | ((with_reducible apply st hs.b3); exact rfl; exact rfl; exact rfl; exact rfl; exact rfl; exact rfl; kernel_rfl; exact rfl; clear hs; intro w hs) | ((with_reducible apply st hs.b4); exact rfl; exact rfl; exact rfl; exact rfl; exact rfl; exact rfl; kernel_rfl; exact rfl; clear hs; intro w hs) | ((with_reducible apply stc hs.b0); exact rfl; exact rfl; exact rfl; exact rfl; exact rfl; kernel_rfl; exact rfl; clear hs; intro w hs) | ((with_reducible apply stc hs.b1); exact rfl; exact rfl; exact rfl; exact rfl; exact rfl; kernel_rfl; exact rfl; clear hs; intro w hs) | ((with_reducible apply stc hs.b2); exact rfl; exact rfl; exact rfl; exact rfl; exact rfl; kernel_rfl; exact rfl; clear hs; intro w hs) | ((with_reducible apply stc hs.b3); exact rfl; exact rfl; exact rfl; exact rfl; exact rfl; kernel_rfl; exact rfl; clear hs; intro w hs) | ((with_reducible apply stc hs.b4); exact rfl; exact rfl; exact rfl; exact rfl; exact rfl; kernel_rfl; exact rfl; clear hs; intro w hs) | ((with_reducible refine wrap hs ?_); clear hs; intro w hs) | ((with_reducible refine wrapn hs ?_); clear hs; intro w hs) | ((with_reducible refine wrapd hs ?_); clear hs; intro w hs)))
          go_roundw
          case rel => exact ⟨i0 + 1, L2, m, b, by omega, by go_num, rfl, HN2, HOK2, hm0, hm1, by refine sb_from ?_ hs; repeat constructor⟩
          case measure => simp [intOf]; omega
      · by_cases k7 : kind = 7
        · subst k7
          clear k6
          obtain ⟨L2, hL2⟩ : ∃ L, (doG ls ⟨7, col, q, r, wide, ⟨fg, bg, fl⟩⟩).1 = L := ⟨_, rfl⟩
          have HD := Lib.hid hL2
          have HOK2 : Hid (Ok L2) := Lib.hid (by rw [← hL2]; exact doG_ok HOK.out _)
          obtain ⟨m, hm⟩ : ∃ m, L2.length = m := ⟨_, rfl⟩
          have hmm : 0 < m ∧ m ≤ 512 := by
            rw [← hm, ← hL2, doG_len HOK.out]
            split
            · simp only at *; omega
            · rw [HN.out]; omega
          obtain ⟨hm0, hm1⟩ := hmm
          have HN2 := Lib.hid hm
          clear hL2 hm
          have HM4 : Hid (∀ c ∈ L2, c.comb.length ≤ 4) := Lib.hid HOK2.out.m4
          obtain ⟨L3, hL3⟩ : ∃ L, eraseG L2 0 9 ⟨fg, bg, fl⟩ = L := ⟨_, rfl⟩
          have HL3 := Lib.hid hL3
          have HN3 : Hid (L3.length = m) := Lib.hid (by rw [← hL3, eraseR_len _ _ _ _ HOK2.out]; exact HN2.out)
          have ok3 : Ok L3 := by rw [← hL3]; exact (erase_eq HOK2.out _ _ _).2
          obtain ⟨L4, hL4⟩ : ∃ L, (putG L3 0 122 false ⟨fg, bg, fl⟩).1 = L := ⟨_, rfl⟩
          have HL4 := Lib.hid hL4
          have HN4 : Hid (L4.length = m) := Lib.hid (by rw [← hL4, putG_len]; exact HN3.out)
          have ok4 : Ok L4 := by rw [← hL4]; exact (put_eq ok3 _ _ _ _).2
          have HM44 : Hid (∀ c ∈ L4, c.comb.length ≤ 4) := Lib.hid ok4.m4
          have HH4 : Hid (∀ c, L4[0]? = some c → c.w ≠ 2) := Lib.hid ok4.head0
          clear hL3 hL4 ok3 ok4
          go_wp2_with (first | (go_at_call 10; refine (do10 (o := ⟨7, col, q, r, wide, ⟨fg, bg, fl⟩⟩) HN.out hn0 hn1 HOK.out HN.out hn0 hn1 HOK.out (by apply sk_from (hs := hs); repeat constructor)).mono ?_; clear hs; rintro e w ⟨v, rfl, hv, hs⟩; obtain rfl := hv rfl; clear hv; rw [HD.out] at hs) | (go_at_call 20; refine (copy20 HN2.out hm0 (by omega) HM4.out (by apply sk_from (hs := hs); repeat constructor)).mono ?_; clear hs; rintro e w ⟨b3, rfl, hs⟩) | (go_at_call 21; refine (erase21 (l := L2) (f := 0) (t := 9) (at_ := ⟨fg, bg, fl⟩) HN2.out hm0 (by omega) (show sat W (rwP 55 b L2 :: cel z9 35 (opL ⟨7, col, q, r, wide, ⟨fg, bg, fl⟩⟩) :: rwP 55 b3 L2 :: rwP 68 b2 L2 :: H) w by refine sb_from ?_ hs; repeat constructor)).mono ?_; clear hs; rintro e w ⟨rfl, hs⟩; rw [HL3.out] at hs) | (go_at_call 22; refine (put22 (l := L3) (k := 0) (x := 122) (wide := false) (at_ := ⟨fg, bg, fl⟩) HN3.out hm0 (by omega) hs).mono ?_; clear hs; rintro e w ⟨rfl, hs⟩; rw [HL4.out] at hs) | (go_at_call 23; refine (join23 (l := L4) (k := 0) (x := 769) HN4.out hm0 (by omega) HM44.out HH4.out hs).mono ?_; clear hs; rintro e w ⟨rfl, hs⟩; replace hs : sat W (rwP 55 b3 L2 :: cel z9 35 (opL ⟨7, col, q, r, wide, ⟨fg, bg, fl⟩⟩) :: rwP 68 b2 L2 :: H) w := by refine sb_from ?_ hs; repeat constructor) | (go_at_call 24; refine (same24 HN2.out hm0 hm1 HOK2.out (by apply sk_from (hs := hs); repeat constructor)).mono ?_; clear hs; rintro e w ⟨rfl, hs⟩) | ((with_reducible refine isl ?_); first | ((with_reducible apply ldsc (cs := opL ⟨7, col, q, r, wide, ⟨fg, bg, fl⟩⟩)); exact rfl; exact rfl; exact rfl; exact HCC.out _ (hs.dropN 2); exact row35) | ((with_reducible refine wrap hs ?_); clear hs; generalize wr.heap.size = z9; intro w hs) | ((with_reducible apply stsw hs.b0); exact rfl; exact rfl; exact rfl; exact rfl; exact row35; exact rfl; exact rfl; exact rfl; clear hs; intro w hs) | ((with_reducible apply lds 8 hs.b0); exact rfl; exact rfl; exact rfl; exact row35; exact rfl; exact rfl) | ((with_reducible apply lds 8 hs.b1); exact rfl; exact rfl; exact rfl; exact row35; exact rfl; exact rfl) | ((with_reducible apply lds 8 hs.b2); exact rfl; exact rfl; exact rfl; exact row35; exact rfl; exact rfl) | ((with_reducible apply lds 3 hs.b0); exact rfl; exact rfl; exact rfl; exact row33; exact rfl; exact rfl) | ((with_reducible apply lds 3 hs.b1); exact rfl; exact rfl; exact rfl; exact row33; exact rfl; exact rfl) | ((with_reducible apply lds 3 hs.b2); exact rfl; exact rfl; exact rfl; exact row33; exact rfl; exact rfl) | ((with_reducible apply lds 3 hs.b3); exact rfl; exact rfl; exact rfl; exact row33; exact rfl; exact rfl) | ((with_reducible apply lds 3 hs.b4); exact rfl; exact rfl; exact rfl; exact row33; exact rfl; exact rfl) | ((with_reducible apply ld hs.b0); exact rfl; exact rfl; exact rfl; exact rfl; kernel_rfl) | ((with_reducible apply ld hs.b1); exact rfl; exact rfl; exact rfl; exact rfl; kernel_rfl) | ((with_reducible apply ld hs.b2); exact rfl; exact rfl; exact rfl; exact rfl; kernel_rfl) | ((with_reducible apply ld hs.b3); exact rfl; exact rfl; exact rfl; exact rfl; kernel_rfl) | ((with_reducible apply ld hs.b4); exact rfl; exact rfl; exact rfl; exact rfl; kernel_rfl) | ((with_reducible apply st hs.b0); exact rfl; exact rfl; exact rfl; exact rfl; exact rfl; exact rfl; kernel_rfl; exact rfl; clear hs; intro w hs) | ((with_reducible apply st hs.b1); exact rfl; exact rfl; exact rfl; exact rfl; exact rfl; exact rfl; kernel_rfl; exact rfl; clear hs; intro w hs) | ((with_reducible apply st hs.b2); exact rfl; exact rfl; exact rfl; exact rfl; exact rfl; exact rfl; kernel_rfl; exact rfl; clear hs; intro w hs) | ((with_reducible apply st hs.b3); exact rfl; exact rfl; exact rfl; exact rfl; exact rfl; exact rfl; kernel_rfl; exact rfl; clear hs; intro w hs) | ((with_reducible apply st hs.b4); exact rfl; exact rfl; exact rfl; exact rfl; exact rfl; exact rfl; kernel_rfl; exact rfl; clear hs; intro w hs) | ((with_reducible apply stc hs.b0); exact rfl; exact rfl; exact rfl; exact rfl; exact rfl; kernel_rfl; exact rfl; clear hs; intro w hs) | ((with_reducible apply stc hs.b1); exact rfl; exact rfl; exact rfl; exact rfl; exact rfl; kernel_rfl; exact rfl; clear hs; intro w hs) | ((with_reducible apply stc hs.b2); exact rfl; exact rfl; exact rfl; exact rfl; exact rfl; kernel_rfl; exact rfl; clear hs; intro w hs) | ((with_reducible apply stc hs.b3); exact rfl; exact rfl; exact rfl; exact rfl; exact rfl; kernel_rfl; exact rfl; clear hs; intro w hs) | ((with_reducible apply stc hs.b4); exact rfl; exact rfl; exact rfl; exact rfl; exact rfl; kernel_rfl; exact rfl; clear hs; intro w hs) | ((with_reducible refine wrap hs ?_); clear hs; intro w hs) | ((with_reducible refine wrapn hs ?_); clear hs; intro w hs) | ((with_reducible refine wrapd hs ?_); clear hs; intro w hs)))
          go_roundw
          case rel => exact ⟨i0 + 1, L2, m, b3, by omega, by go_num, rfl, HN2, HOK2, hm0, hm1, by refine sb_from ?_ hs; repeat constructor⟩
          case measure => simp [intOf]; omega
        · have qa : (kind == 6) = false := beq_eq_false_iff_ne.2 k6
          have qb : decide (kind = 6) = false := decide_eq_false k6
          have qc : decide (kind = 7) = false := decide_eq_false k7
          obtain ⟨L2, hL2⟩ : ∃ L, (doG ls ⟨kind, col, q, r, wide, ⟨fg, bg, fl⟩⟩).1 = L := ⟨_, rfl⟩
          have HD := Lib.hid hL2
          have HOK2 : Hid (Ok L2) := Lib.hid (by rw [← hL2]; exact doG_ok HOK.out _)
          obtain ⟨m, hm⟩ : ∃ m, L2.length = m := ⟨_, rfl⟩
          have hmm : 0 < m ∧ m ≤ 512 := by
            rw [← hm, ← hL2, doG_len HOK.out]
            split
            · simp only at *; omega
            · rw [HN.out]; omega
          obtain ⟨hm0, hm1⟩ := hmm
          have HN2 := Lib.hid hm
          clear hL2 hm
          go_wp2_with (first | (go_at_call 10; refine (do10 (o := ⟨kind, col, q, r, wide, ⟨fg, bg, fl⟩⟩) HN.out hn0 hn1 HOK.out HN.out hn0 hn1 HOK.out (by apply sk_from (hs := hs); repeat constructor)).mono ?_; clear hs; rintro e w ⟨v, rfl, hv, hs⟩; obtain rfl := hv rfl; clear hv; rw [HD.out] at hs) | (go_at_call 24; refine (same24 HN2.out hm0 hm1 HOK2.out (by apply sk_from (hs := hs); repeat constructor)).mono ?_; clear hs; rintro e w ⟨rfl, hs⟩) | ((with_reducible refine isl ?_); first | ((with_reducible apply ldsc (cs := opL ⟨kind, col, q, r, wide, ⟨fg, bg, fl⟩⟩)); exact rfl; exact rfl; exact rfl; exact HCC.out _ (hs.dropN 2); exact row35) | ((with_reducible refine wrap hs ?_); clear hs; generalize wr.heap.size = z9; intro w hs) | ((with_reducible apply stsw hs.b0); exact rfl; exact rfl; exact rfl; exact rfl; exact row35; exact rfl; exact rfl; exact rfl; clear hs; intro w hs) | ((with_reducible apply lds 8 hs.b0); exact rfl; exact rfl; exact rfl; exact row35; exact rfl; exact rfl) | ((with_reducible apply lds 8 hs.b1); exact rfl; exact rfl; exact rfl; exact row35; exact rfl; exact rfl) | ((with_reducible apply lds 8 hs.b2); exact rfl; exact rfl; exact rfl; exact row35; exact rfl; exact rfl) | ((with_reducible apply ld hs.b0); exact rfl; exact rfl; exact rfl; exact rfl; kernel_rfl) | ((with_reducible apply ld hs.b1); exact rfl; exact rfl; exact rfl; exact rfl; kernel_rfl) | ((with_reducible apply ld hs.b2); exact rfl; exact rfl; exact rfl; exact rfl; kernel_rfl) | ((with_reducible apply ld hs.b3); exact rfl; exact rfl; exact rfl; exact rfl; kernel_rfl) | ((with_reducible apply ld hs.b4); exact rfl; exact rfl; exact rfl; exact rfl; kernel_rfl) | ((with_reducible apply st hs.b0); exact rfl; exact rfl; exact rfl; exact rfl; exact rfl; exact rfl; kernel_rfl; exact rfl; clear hs; intro w hs) | ((with_reducible apply st hs.b1); exact rfl; exact rfl; exact rfl; exact rfl; exact rfl; exact rfl; kernel_rfl; exact rfl; clear hs; intro w hs) | ((with_reducible apply st hs.b2); exact rfl; exact rfl; exact rfl; exact rfl; exact rfl; exact rfl; kernel_rfl; exact rfl; clear hs; intro w hs) | ((with_reducible apply st hs.b3); exact rfl; exact rfl; exact rfl; exact rfl; exact rfl; exact rfl; kernel_rfl; exact rfl; clear hs; intro w hs) | ((with_reducible apply st hs.b4); exact rfl; exact rfl; exact rfl; exact rfl; exact rfl; exact rfl; kernel_rfl; exact rfl; clear hs; intro w hs) | ((with_reducible apply stc hs.b0); exact rfl; exact rfl; exact rfl; exact rfl; exact rfl; kernel_rfl; exact rfl; clear hs; intro w hs) | ((with_reducible apply stc hs.b1); exact rfl; exact rfl; exact rfl; exact rfl; exact rfl; kernel_rfl; exact rfl; clear hs; intro w hs) | ((with_reducible apply stc hs.b2); exact rfl; exact rfl; exact rfl; exact rfl; exact rfl; kernel_rfl; exact rfl; clear hs; intro w hs) | ((with_reducible apply stc hs.b3); exact rfl; exact rfl; exact rfl; exact rfl; exact rfl; kernel_rfl; exact rfl; clear hs; intro w hs) | ((with_reducible apply stc hs.b4); exact rfl; exact rfl; exact rfl; exact rfl; exact rfl; kernel_rfl; exact rfl; clear hs; intro w hs) | ((with_reducible refine wrap hs ?_); clear hs; intro w hs) | ((with_reducible refine wrapn hs ?_); clear hs; intro w hs) | ((with_reducible refine wrapd hs ?_); clear hs; intro w hs)))
          go_roundw
          case rel => exact ⟨i0 + 1, L2, m, b, by omega, by go_num, rfl, HN2, HOK2, hm0, hm1, by refine sb_from ?_ hs; repeat constructor⟩
          case measure => simp [intOf]; omega
    · have hge : ¬ (i0 : Int) < (nS : Int) := by omega
      clear hin
      go_wp2_with (first | (go_at_call 8; refine (known8 hs).mono ?_; clear hs; rintro e w ⟨rfl, hs⟩) | ((with_reducible refine isl ?_); first | ((with_reducible refine wrap hs ?_); clear hs; intro w hs) | ((with_reducible refine wrapn hs ?_); clear hs; intro w hs) | ((with_reducible refine wrapd hs ?_); clear hs; intro w hs)))
      go_ret
      exact ⟨rfl, hs.dropN 2⟩
end Go.Proofs.Yteoeeiinngpogaa
