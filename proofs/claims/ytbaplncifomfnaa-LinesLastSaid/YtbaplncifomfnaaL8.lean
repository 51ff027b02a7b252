/- Law 8: LinesLast. -/
import Derived.Test.YtbaplncifomfnaaL7
namespace Go.Proofs.Ytbaplncifomfnaa
open Go.RowKit Go.Mem Go.Cells Go.Lines
variable {W w : World} {H : List HProp}
attribute [local irreducible] rowTy oneTy World.setCell World.setCells World.alloc World.drew World.drewN Calls sat cel own blk old wpQuiet wpList cmb cmb1 rwP cls rws wi wh fst_ World.rangeAt lrw lnP stP lsP dsP lvs NR lnN lnQ
theorem last3_no {most n : Int} (h : ¬ (0 ≤ most ∧ most ≤ 10000)) (hs : sat W H w) : Calls Try.prog 3 #[.int .i64 most, .int .i64 n] w fun e w' => e = .returned (.bool true) ∧ sat W H w' := by
  have HH := Lib.hid h
  clear h
  go_enter Try.func3, Try.ntmps3
  go_wp2_with (first | (go_at_call 6; refine (new6_no HH.out (by (apply sk_from (hs := hs); repeat constructor))).mono ?_; clear hs; rintro e w ⟨rfl, hs⟩) | (go_at_call 7; refine (known7 (by (apply sk_from (hs := hs); repeat constructor))).mono ?_; clear hs; rintro e w ⟨rfl, hs⟩) | ((with_reducible refine isl ?_); first | ((with_reducible refine wrap hs ?_); clear hs; intro w hs) | ((with_reducible refine wrapn hs ?_); clear hs; intro w hs) | ((with_reducible refine wrapd hs ?_); clear hs; intro w hs)))
  go_ret
  exact ⟨rfl, hs⟩
theorem last3_big {m0 : Nat} {n : Int} (h : m0 ≤ 10000) (hb : 30 < m0 ∨ n < 0 ∨ 100 < n) (hs : sat W H w) : Calls Try.prog 3 #[.int .i64 (m0 : Int), .int .i64 n] w fun e w' => e = .returned (.bool true) ∧ sat W H w' := by
  by_cases h1 : 30 < m0
  · have g1 : decide ((30 : Int) < (m0 : Int)) = true := decide_eq_true (by omega)
    have HH := Lib.hid h
    clear hb h
    go_enter Try.func3, Try.ntmps3
    go_wp2_with (first | (go_at_call 6; refine (new6 HH.out (by (apply sk_from (hs := hs); repeat constructor))).mono ?_; clear hs; rintro e w ⟨b, rfl, hs⟩) | (go_at_call 7; refine (known7 (by (apply sk_from (hs := hs); repeat constructor))).mono ?_; clear hs; rintro e w ⟨rfl, hs⟩) | ((with_reducible refine isl ?_); first | ((with_reducible refine wrap hs ?_); clear hs; intro w hs) | ((with_reducible refine wrapn hs ?_); clear hs; intro w hs) | ((with_reducible refine wrapd hs ?_); clear hs; intro w hs)))
    go_ret
    exact ⟨rfl, hs.drop⟩
  · have g1 : decide ((30 : Int) < (m0 : Int)) = false := decide_eq_false (by omega)
    have HH := Lib.hid h
    by_cases h2 : n < 0
    · have g2 : decide (n < 0) = true := decide_eq_true h2
      clear hb h h1
      go_enter Try.func3, Try.ntmps3
      go_wp2_with (first | (go_at_call 6; refine (new6 HH.out (by (apply sk_from (hs := hs); repeat constructor))).mono ?_; clear hs; rintro e w ⟨b, rfl, hs⟩) | (go_at_call 7; refine (known7 (by (apply sk_from (hs := hs); repeat constructor))).mono ?_; clear hs; rintro e w ⟨rfl, hs⟩) | ((with_reducible refine isl ?_); first | ((with_reducible refine wrap hs ?_); clear hs; intro w hs) | ((with_reducible refine wrapn hs ?_); clear hs; intro w hs) | ((with_reducible refine wrapd hs ?_); clear hs; intro w hs)))
      go_ret
      exact ⟨rfl, hs.drop⟩
    · have g2 : decide (n < 0) = false := decide_eq_false h2
      have g3 : decide ((100 : Int) < n) = true := decide_eq_true (by omega)
      clear hb h h1
      go_enter Try.func3, Try.ntmps3
      go_wp2_with (first | (go_at_call 6; refine (new6 HH.out (by (apply sk_from (hs := hs); repeat constructor))).mono ?_; clear hs; rintro e w ⟨b, rfl, hs⟩) | (go_at_call 7; refine (known7 (by (apply sk_from (hs := hs); repeat constructor))).mono ?_; clear hs; rintro e w ⟨rfl, hs⟩) | ((with_reducible refine isl ?_); first | ((with_reducible refine wrap hs ?_); clear hs; intro w hs) | ((with_reducible refine wrapn hs ?_); clear hs; intro w hs) | ((with_reducible refine wrapd hs ?_); clear hs; intro w hs)))
      go_ret
      exact ⟨rfl, hs.drop⟩
set_option maxRecDepth 8000 in
theorem last3_go {m0 n : Nat} (h : m0 ≤ 30) (hn : n ≤ 100) (hs : sat W H w) : Calls Try.prog 3 #[.int .i64 (m0 : Int), .int .i64 (n : Int)] w fun e w' => e = .returned (.bool true) ∧ sat W H w' := by
  obtain ⟨c1, hc⟩ : ∃ c, eraseG (List.replicate 1 (bC At.z)) 0 (1 : Nat) At.z = c := ⟨_, rfl⟩
  have HC := Lib.hid hc
  have c0 : c1.length = 1 := by rw [← hc]; exact fresh_len 1 At.z
  have c2 : Ok c1 := by rw [← hc]; exact fresh_ok 1 At.z
  have HCL := Lib.hid c0
  have HOK := Lib.hid c2
  have HLK : Hid (∀ i, LOK (lnQ m0 i c1)) := Lib.hid fun i => lnQ_ok (by omega) (by omega) c2
  have g1 : decide ((30 : Int) < (m0 : Int)) = false := decide_eq_false (by omega)
  have g2 : decide ((n : Int) < 0) = false := decide_eq_false (by omega)
  have g3 : decide ((100 : Int) < (n : Int)) = false := decide_eq_false (by omega)
  have HM : Hid (m0 ≤ 10000) := Lib.hid (by omega)
  have HB : Hid (m0 ≤ 30 ∧ n ≤ 100) := Lib.hid ⟨h, hn⟩
  clear hc c0 c2 h hn
  go_enter Try.func3, Try.ntmps3
  go_wp2_with (first | (go_at_call 6; refine (new6 HM.out (by (apply sk_from (hs := hs); repeat constructor))).mono ?_; clear hs; rintro e w ⟨b, rfl, hs⟩) | ((with_reducible refine isl ?_); first | ((with_reducible refine wrap hs ?_); clear hs; intro w hs) | ((with_reducible refine wrapn hs ?_); clear hs; intro w hs) | ((with_reducible refine wrapd hs ?_); clear hs; intro w hs)))
  go_loopw [46] (fun i wx => ∃ i0 : Nat, i0 ≤ n ∧ i = .int .i64 (i0 : Int) ∧ sat W (stP b m0 ((i0 : Int) + 1) (lnQ m0 i0 c1) :: H) wx) (fun i _ => ((n : Int) - intOf i).toNat)
  case atStart => exact ⟨0, by omega, rfl, by rw [lnQ_zero]; exact hs⟩
  case round =>
    clear hs
    obtain ⟨i0, hi, rfl, hs⟩ := hrel
    by_cases hin : i0 < n
    · have hin2 : (i0 : Int) < (n : Int) := by omega
      have HP := Lib.hid (lnQ_push m0 i0 c1)
      have e1 : ((i0 + 1 : Nat) : Int) = (i0 : Int) + 1 := by omega
      rw [e1] at HP
      have HI : Hid (i0 ≤ 100) := Lib.hid (by have := HB.out.2; omega)
      have hnw : (i0 : Int) + 1 ≤ 9223372036854775807 := by have := HI.out; omega
      go_wp2_with (first | (go_at_call 8; refine (fresh8 (n := 1) (a := At.z) (nx := (i0 : Int) + 1) (by omega) (by omega) (by omega) (by have := HI.out; omega) (by (apply sk_from (hs := hs); repeat constructor))).mono ?_; clear hs; rintro e w ⟨b2, rfl, hs⟩; rw [HC.out] at hs) | (go_at_call 9; refine (push9 (nx := (i0 : Int) + 1 + 1) (id := (i0 : Int) + 1) (most := m0) HCL.out (by omega) (by omega) HOK.out ⟨by omega, by omega⟩ HM.out (by (apply sk_from (hs := hs); repeat constructor))).mono ?_; clear hs; rintro e w ⟨rfl, hs⟩; rw [HP.out] at hs) | ((with_reducible refine isl ?_); first | ((with_reducible refine wrap hs ?_); clear hs; generalize World.heap _ = q at *; generalize q.size = z9; intro w hs) | ((with_reducible apply stsw hs.b0); exact rfl; exact rfl; exact rfl; exact rfl; exact row29; exact rfl; exact rfl; exact rfl; clear hs; intro w hs) | ((with_reducible apply stsw hs.b1); exact rfl; exact rfl; exact rfl; exact rfl; exact row29; exact rfl; exact rfl; exact rfl; clear hs; intro w hs) | ((with_reducible apply stsw hs.b2); exact rfl; exact rfl; exact rfl; exact rfl; exact row29; exact rfl; exact rfl; exact rfl; clear hs; intro w hs) | ((with_reducible apply lds 2 hs.b0); exact rfl; exact rfl; exact rfl; exact row29; exact rfl; exact rfl) | ((with_reducible apply lds 2 hs.b1); exact rfl; exact rfl; exact rfl; exact row29; exact rfl; exact rfl) | ((with_reducible apply lds 2 hs.b2); exact rfl; exact rfl; exact rfl; exact row29; exact rfl; exact rfl) | ((with_reducible apply lds 2 hs.b3); exact rfl; exact rfl; exact rfl; exact row29; exact rfl; exact rfl) | ((with_reducible apply ld hs.b0); exact rfl; exact rfl; exact rfl; exact rfl; kernel_rfl) | ((with_reducible apply ld hs.b1); exact rfl; exact rfl; exact rfl; exact rfl; kernel_rfl) | ((with_reducible apply ld hs.b2); exact rfl; exact rfl; exact rfl; exact rfl; kernel_rfl) | ((with_reducible apply st hs.b0); exact rfl; exact rfl; exact rfl; exact rfl; exact rfl; exact rfl; kernel_rfl; exact rfl; clear hs; intro w hs) | ((with_reducible apply st hs.b1); exact rfl; exact rfl; exact rfl; exact rfl; exact rfl; exact rfl; kernel_rfl; exact rfl; clear hs; intro w hs) | ((with_reducible apply st hs.b2); exact rfl; exact rfl; exact rfl; exact rfl; exact rfl; exact rfl; kernel_rfl; exact rfl; clear hs; intro w hs) | ((with_reducible apply stc hs.b0); exact rfl; exact rfl; exact rfl; exact rfl; exact rfl; kernel_rfl; exact rfl; clear hs; intro w hs) | ((with_reducible apply stc hs.b1); exact rfl; exact rfl; exact rfl; exact rfl; exact rfl; kernel_rfl; exact rfl; clear hs; intro w hs) | ((with_reducible apply stc hs.b2); exact rfl; exact rfl; exact rfl; exact rfl; exact rfl; kernel_rfl; exact rfl; clear hs; intro w hs) | ((with_reducible refine wrap hs ?_); clear hs; intro w hs) | ((with_reducible refine wrapn hs ?_); clear hs; intro w hs) | ((with_reducible refine wrapd hs ?_); clear hs; intro w hs)))
      go_roundw
      case rel => exact ⟨i0 + 1, by omega, by go_num, by rw [e1]; refine sb_from ?_ hs; repeat constructor⟩
      case measure => simp [intOf]; omega
    · obtain rfl : i0 = n := by omega
      clear hin
      obtain ⟨L, hL⟩ : ∃ L, lnQ m0 i0 c1 = L := ⟨_, rfl⟩
      obtain ⟨k, hk⟩ : ∃ k, min i0 m0 = k := ⟨_, rfl⟩
      have hki : k ≤ i0 := by omega
      have HK := Lib.hid hk
      have HLN : Hid (L.length = k) := Lib.hid (by rw [← hL, lnQ_len]; exact hk)
      have HG : Hid (∀ j, j < k → L[j]? = some (((i0 - k + j + 1 : Nat) : Int), c1)) := Lib.hid fun j hj => by rw [← hL, lnQ_get (by omega), hk]
      have HFD : Hid (∀ id, fnd L id = if ((i0 - k : Nat) : Int) < id ∧ id ≤ ((i0 - k : Nat) : Int) + (k : Nat) then id - ((i0 - k : Nat) : Int) - 1 else -1) := Lib.hid fun id => by rw [← hL, lnQ_find, hk]
      have HLK' : Hid (LOK L) := Lib.hid (by rw [← hL]; exact HLK.out i0)
      have HE : Hid ((if m0 < i0 then (m0 : Int) else (i0 : Int)) = (k : Int)) := Lib.hid (by split <;> omega)
      rw [hL] at hs
      have hnw : (i0 : Int) + 1 ≤ 9223372036854775807 := by have := HB.out; omega
      have hn0 : 0 < (i0 : Int) + 1 := by omega
      have HN0 := Lib.hid hn0
      clear hL hk HLK hn0
      go_upto_region 12 with fail
      rw [HE.out]
      go_wp2_with (first | (go_at_call 10; refine (len10_st (n := k) HLN.out HN0.out (by (apply sk_from (hs := hs); repeat constructor))).mono ?_; clear hs; rintro e w ⟨rfl, hs⟩) | (go_at_call 11; refine (next11_st HN0.out (by (apply sk_from (hs := hs); repeat constructor))).mono ?_; clear hs; rintro e w ⟨rfl, hs⟩) | ((with_reducible refine isl ?_); first | ((with_reducible refine wrap hs ?_); clear hs; intro w hs) | ((with_reducible refine wrapn hs ?_); clear hs; intro w hs) | ((with_reducible refine wrapd hs ?_); clear hs; intro w hs)))
      go_loopw [86] (fun i wx => ∃ j : Nat, j ≤ k ∧ i = .int .i64 (j : Int) ∧ sat W (stP b m0 ((i0 : Int) + 1) L :: H) wx) (fun i _ => ((k : Int) - intOf i).toNat)
      case atStart => exact ⟨0, Nat.zero_le _, rfl, hs⟩
      case round =>
        clear hs
        obtain ⟨j, hj, rfl, hs⟩ := hrel
        by_cases hjn : j < k
        · have hjn2 : (j : Int) < (k : Int) := by omega
          have HJ := Lib.hid (HG.out j hjn)
          obtain ⟨id, hid⟩ : ∃ id : Int, ((i0 - k + j + 1 : Nat) : Int) = id := ⟨_, rfl⟩
          have HF := Lib.hid (HFD.out id)
          rw [if_pos (by omega), show id - ((i0 - k : Nat) : Int) - 1 = (j : Int) from by omega] at HF
          rw [hid] at HJ
          have e5 : (i0 : Int) - (k : Int) + (j : Int) + 1 = id := by omega
          clear hid
          go_wp2_with (first | (go_at_call 12; refine (at12 (most := m0) HJ.out HCL.out HLK'.out HM.out HN0.out (by (apply sk_from (hs := hs); repeat constructor))).mono ?_; clear hs; rintro e w ⟨a5, p5, rfl, hs⟩) | (go_at_call 13; refine (find13 (most := m0) HM.out HN0.out (by (apply sk_from (hs := hs); repeat constructor))).mono ?_; clear hs; rintro e w ⟨rfl, hs⟩; rw [HF.out]) | ((with_reducible refine isl ?_); first | ((with_reducible refine wrap hs ?_); clear hs; generalize World.heap _ = q at *; generalize q.size = z9; intro w hs) | ((with_reducible apply stsw hs.b0); exact rfl; exact rfl; exact rfl; exact rfl; exact row40; exact rfl; exact rfl; exact rfl; clear hs; intro w hs) | ((with_reducible apply stsw hs.b1); exact rfl; exact rfl; exact rfl; exact rfl; exact row40; exact rfl; exact rfl; exact rfl; clear hs; intro w hs) | ((with_reducible apply stsw hs.b2); exact rfl; exact rfl; exact rfl; exact rfl; exact row40; exact rfl; exact rfl; exact rfl; clear hs; intro w hs) | ((with_reducible apply ld hs.b0); exact rfl; exact rfl; exact rfl; exact rfl; kernel_rfl) | ((with_reducible apply ld hs.b1); exact rfl; exact rfl; exact rfl; exact rfl; kernel_rfl) | ((with_reducible apply ld hs.b2); exact rfl; exact rfl; exact rfl; exact rfl; kernel_rfl) | ((with_reducible apply st hs.b0); exact rfl; exact rfl; exact rfl; exact rfl; exact rfl; exact rfl; kernel_rfl; exact rfl; clear hs; intro w hs) | ((with_reducible apply st hs.b1); exact rfl; exact rfl; exact rfl; exact rfl; exact rfl; exact rfl; kernel_rfl; exact rfl; clear hs; intro w hs) | ((with_reducible apply st hs.b2); exact rfl; exact rfl; exact rfl; exact rfl; exact rfl; exact rfl; kernel_rfl; exact rfl; clear hs; intro w hs) | ((with_reducible apply stc hs.b0); exact rfl; exact rfl; exact rfl; exact rfl; exact rfl; kernel_rfl; exact rfl; clear hs; intro w hs) | ((with_reducible apply stc hs.b1); exact rfl; exact rfl; exact rfl; exact rfl; exact rfl; kernel_rfl; exact rfl; clear hs; intro w hs) | ((with_reducible apply stc hs.b2); exact rfl; exact rfl; exact rfl; exact rfl; exact rfl; kernel_rfl; exact rfl; clear hs; intro w hs) | ((with_reducible refine wrap hs ?_); clear hs; intro w hs) | ((with_reducible refine wrapn hs ?_); clear hs; intro w hs) | ((with_reducible refine wrapd hs ?_); clear hs; intro w hs)))
          go_roundw
          case rel => exact ⟨j + 1, by omega, by go_num, by refine sb_from ?_ hs; repeat constructor⟩
          case measure => simp [intOf]; omega
        · obtain rfl : j = k := by omega
          have HF1 := Lib.hid (HFD.out ((i0 : Int) - (j : Int)))
          rw [if_neg (by omega)] at HF1
          have HF2 := Lib.hid (HFD.out ((i0 : Int) + 1))
          rw [if_neg (by omega)] at HF2
          have hge : ¬ (j : Int) < (j : Int) := by omega
          clear hjn
          go_wp2_with (first | (go_at_call 13; refine (find13 (id := (i0 : Int) - (j : Int)) (most := m0) HM.out HN0.out hs).mono ?_; clear hs; rintro e w ⟨rfl, hs⟩; rw [HF1.out]) | (go_at_call 13; refine (find13 (id := (i0 : Int) + 1) (most := m0) HM.out HN0.out hs).mono ?_; clear hs; rintro e w ⟨rfl, hs⟩; rw [HF2.out]) | (go_at_call 7; refine (known7 (by (apply sk_from (hs := hs); repeat constructor))).mono ?_; clear hs; rintro e w ⟨rfl, hs⟩) | ((with_reducible refine isl ?_); first | ((with_reducible apply ld hs.b0); exact rfl; exact rfl; exact rfl; exact rfl; kernel_rfl) | ((with_reducible apply ld hs.b1); exact rfl; exact rfl; exact rfl; exact rfl; kernel_rfl) | ((with_reducible apply ld hs.b2); exact rfl; exact rfl; exact rfl; exact rfl; kernel_rfl) | ((with_reducible apply st hs.b0); exact rfl; exact rfl; exact rfl; exact rfl; exact rfl; exact rfl; kernel_rfl; exact rfl; clear hs; intro w hs) | ((with_reducible apply st hs.b1); exact rfl; exact rfl; exact rfl; exact rfl; exact rfl; exact rfl; kernel_rfl; exact rfl; clear hs; intro w hs) | ((with_reducible apply st hs.b2); exact rfl; exact rfl; exact rfl; exact rfl; exact rfl; exact rfl; kernel_rfl; exact rfl; clear hs; intro w hs) | ((with_reducible apply stc hs.b0); exact rfl; exact rfl; exact rfl; exact rfl; exact rfl; kernel_rfl; exact rfl; clear hs; intro w hs) | ((with_reducible apply stc hs.b1); exact rfl; exact rfl; exact rfl; exact rfl; exact rfl; kernel_rfl; exact rfl; clear hs; intro w hs) | ((with_reducible apply stc hs.b2); exact rfl; exact rfl; exact rfl; exact rfl; exact rfl; kernel_rfl; exact rfl; clear hs; intro w hs) | ((with_reducible refine wrap hs ?_); clear hs; intro w hs) | ((with_reducible refine wrapn hs ?_); clear hs; intro w hs) | ((with_reducible refine wrapd hs ?_); clear hs; intro w hs)))
          go_ret
          exact ⟨rfl, hs.drop⟩
theorem last_top (a0 a1 : Int) (w : World) (_ : (Lit.int .i64 a0).wf = true) (_ : (Lit.int .i64 a1).wf = true) :
    Calls Try.prog 3 #[.int .i64 a0, .int .i64 a1] w fun e w' => e = .returned (.bool true) ∧ Below w.heap.size w w' := by
  by_cases h : 0 ≤ a0 ∧ a0 ≤ 10000
  · obtain ⟨m0, rfl⟩ : ∃ m0 : Nat, a0 = (m0 : Int) := ⟨a0.toNat, by omega⟩
    by_cases h2 : 30 < m0 ∨ a1 < 0 ∨ 100 < a1
    · exact (last3_big (by omega) h2 (sat.start w)).mono fun _ _ ⟨he, hs⟩ => ⟨he, hs.below⟩
    · obtain ⟨n, rfl⟩ : ∃ n : Nat, a1 = (n : Int) := ⟨a1.toNat, by omega⟩
      exact (last3_go (by omega) (by omega) (sat.start w)).mono fun _ _ ⟨he, hs⟩ => ⟨he, hs.below⟩
  · exact (last3_no h (sat.start w)).mono fun _ _ ⟨he, hs⟩ => ⟨he, hs.below⟩
end Go.Proofs.Ytbaplncifomfnaa
