/- Law 9: the document's up. -/
import Derived.Test.YtdcagaaanbgcoaaSf
import Derived.Test.YtdcagaaanbgcoaaS20
namespace Go.Proofs.Ytdcagaaanbgcoaa
open Go.RowKit Go.Mem Go.Cells Go.Lines
variable {W w : World} {H : List HProp}
theorem one91 : oneTy Try.prog 91 = true := by kernel_rfl
theorem rds_zero3 {w : World} {g off c2 r : Nat} {xs : List Value} (h0 : r = 0) (hx : xs.length = r * 2) : Rds w (.slice (some ⟨g, off, none⟩) 0 c2) r xs := by
  subst h0
  rw [List.eq_nil_of_length_eq_zero (by omega : xs.length = 0)]
  exact .inr ⟨g, off, c2, rfl, fun j u hj => by simp at hj⟩
theorem rds_mid3 {ps : List PL} {T g n p f m K j c2 : Nat} (hr : K = f + m + j) (hl : K ≤ n) (hs : sat W (own T 2 (.slice (some ⟨g, 0, none⟩) n p) n (lvs ps).flatten :: H) w) : Rds w (.slice (some ⟨g, (f + m) * 2, none⟩) (K - (f + m)) c2) j (lvs ((ps.drop (f + m)).take j)).flatten := by
  subst hr
  exact rds_mid2 hl hs
attribute [local irreducible] rowTy oneTy World.setCell World.setCells World.alloc World.drew World.drewN Calls sat cel own blk old wpQuiet wpList cmb cmb1 rwP cls rws wi wh fst_ World.rangeAt lrw lnP stP lsP dsP lvs frL downL upL pushs dcP Rds
section
variable {d v N cols most f k : Nat} {keeps : Bool} {top bot nx q to_ : Int} {L SL : List LN} {at_ : At}
set_option maxHeartbeats 4000000 in
set_option maxRecDepth 20000 in
theorem dup70_false (hn : L.length = N) (hN : N ≤ 512) (hf : f + k ≤ N) (hk : 0 < k) (hto : to_ = ((f + k : Nat) : Int) - 1) (c0 : 1 ≤ cols) (c1 : cols ≤ 512) (hnx : 0 < nx) (hnb : nx + 512 ≤ 1000000)
    (hs : sat W (dcP d v ⟨keeps, cols, top, bot, L⟩ :: dsP v nx most SL :: H) w) :
    Calls Try.prog 70 #[.pointer (some ⟨d, 0, none⟩), .int .i64 (f : Int), .int .i64 to_, .int .i64 q, aV at_, .bool false] w fun e w' => e = .returned (.tuple #[]) ∧ sat W (dcP d v ⟨keeps, cols, top, bot, upL L f k (hld q k) (frL (hld q k) nx (frC cols at_))⟩ :: dsP v (nx + hld q k) most SL :: H) w' := by
  obtain ⟨ps, a, p, HO, hs⟩ := dc_open hn hs
  obtain ⟨g, rfl⟩ := own_ptr (by omega) hs.b1
  obtain ⟨hnp, hpm⟩ := hs.b1.own_len
  have hp63 : (p : Int) ≤ 9223372036854775807 := by unfold maxLen at hpm; omega
  obtain ⟨m, hm⟩ : ∃ m, hld q k = m := ⟨_, rfl⟩
  have hmk : m ≤ k := by rw [← hm]; exact hld_le _ _
  have HM := Lib.hid hm
  rw [hm]
  obtain ⟨fg, bg, fl⟩ := at_
  have hN2 : (N : Int) ≤ 512 := by omega
  have HT := Lib.hid hto
  have ht2 : to_ ≤ 512 := by omega
  have ht3 : 0 ≤ to_ := by omega
  have HB := Lib.hid (And.intro hnx hnb)
  skip
  clear hm hn hto hnx hnb hpm
  go_enter Try.func70, Try.ntmps70
  go_upto_region 3 with (first | (go_at_call 86; refine (held86 (k := k) hk (by omega) (by have := HT.out; omega) (by omega) (by omega) hs).mono ?_; clear hs; rintro e w ⟨rfl, hs⟩; rw [HM.out]) | ((with_reducible refine isl ?_); first | ((with_reducible refine wrap hs ?_); clear hs; (generalize w.heap.size = z5); intro w hs)))
  have hs1 := hs.own_nil 93 2
  clear hs
  have hs := hs1
  clear hs1
  have HL1 : Hid ((lvs (ps.take f)).flatten.length = f * 2) := Lib.hid (by rw [lvs_size, List.length_take, HO.out.2, Nat.min_eq_left (by omega)])
  obtain ⟨j, hj⟩ : ∃ j, k = m + j := ⟨k - m, by omega⟩
  have HL2 : Hid ((lvs ((ps.drop (f + m)).take j)).flatten.length = j * 2) := Lib.hid (by rw [lvs_size, List.length_take, List.length_drop, HO.out.2, Nat.min_eq_left (by omega)])
  obtain ⟨r, hr⟩ : ∃ r, N = f + k + r := ⟨N - (f + k), by omega⟩
  have HL3 : Hid ((lvs (ps.drop (f + k))).flatten.length = r * 2) := Lib.hid (by rw [lvs_size, List.length_drop, HO.out.2, hr, Nat.add_sub_cancel_left])
  have HJ := Lib.hid (And.intro hj hr)
  clear hj hr
  go_upto_region 4 with (first | ((apply apxn hs.b0; exact rfl; exact rfl; exact rfl; exact rfl; exact slty83; (exact rds_head (f := f) (by omega) hs.b3); exact HL1.out; exact lvs_one; omega; (unfold maxLen; omega); clear hs; intro a9 c9 w hs)) | ((with_reducible refine isl ?_); first | ((with_reducible apply ldx); exact rfl; exact rfl; exact rfl; (exact hs.b2); exact rfl; kernel_rfl)))
  have e8 : to_ + 1 = (f : Int) + (k : Int) := by have := HT.out; omega
  have e12 : f + j ≤ 512 := by have := HJ.out; omega
  have e13 : f + j + m ≤ 512 := by have := HJ.out; omega
  have e14 : f + j + m + r ≤ 512 := by have := HJ.out; omega
  have HKJ : Hid (f + k = f + m + j ∧ f + k ≤ N) := Lib.hid (by have := HJ.out; omega)
  have hfm : (f : Int) + (m : Int) ≤ 512 := by omega
  have hfk : (f : Int) + (k : Int) ≤ (p : Int) := by omega
  have HS : Hid ((lvs (ps.take f)).flatten ++ (lvs ((ps.drop (f + m)).take j)).flatten = (lvs (ps.take f ++ (ps.drop (f + m)).take j)).flatten ∧ ∀ pf : List PL, (lvs (ps.take f ++ (ps.drop (f + m)).take j)).flatten ++ (lvs pf).flatten ++ (lvs (ps.drop (f + k))).flatten = (lvs (upL ps f k m pf)).flatten) := Lib.hid ⟨by simp only [lvs_app, List.flatten_append], fun pf => by
    unfold upL
    rw [show k - m = j from by have := HJ.out.1; omega]
    simp only [lvs_app, List.flatten_append]⟩
  have HG : Hid (∀ (w : World) (a9 : Option Addr) (c9 : Nat) (pf : List PL) (S2 : List LN), Hid (pf.map PL.ln = frL m nx (frC cols ⟨fg, bg, fl⟩) ∧ pf.length = m) → sat W (own 93 2 (.slice a9 N c9) N (lvs (upL ps f k m pf)).flatten :: lrw 100 ps :: lrw 100 pf :: cel d 85 [.pointer (some ⟨v, 0, none⟩), .bool keeps, .int .i64 cols, .slice a9 N c9, .int .i64 top, .int .i64 bot] :: dsP v (nx + m) most S2 :: H) w → sat W (dcP d v ⟨keeps, cols, top, bot, upL L f k m (frL m nx (frC cols ⟨fg, bg, fl⟩))⟩ :: dsP v (nx + m) most S2 :: H) w) := Lib.hid (by
    intro w a9 c9 pf S2 hpf h
    have h1 := lrw_up hmk (by rw [HO.out.2]; exact hf) (by refine sb_from ?_ h; repeat constructor : sat W (lrw 100 ps :: lrw 100 pf :: own 93 2 (.slice a9 N c9) N (lvs (upL ps f k m pf)).flatten :: cel d 85 [.pointer (some ⟨v, 0, none⟩), .bool keeps, .int .i64 cols, .slice a9 N c9, .int .i64 top, .int .i64 bot] :: dsP v (nx + m) most S2 :: H) w)
    have HU : Hid ((upL ps f k m pf).map PL.ln = upL L f k m (frL m nx (frC cols ⟨fg, bg, fl⟩)) ∧ (upL ps f k m pf).length = N) := Lib.hid ⟨by rw [upL_map, HO.out.1, hpf.out.1], by rw [upL_len _ hmk (by rw [HO.out.2]; exact hf) hpf.out.2, HO.out.2]⟩
    exact dc_close HU (by refine sb_from ?_ h1; repeat constructor))
  go_wp2_with fail
  go_loopw [13] (fun i wx => i = .int .i64 (f : Int) ∧ sat W (own 93 2 (.slice a9 f c9) f (lvs (ps.take f)).flatten :: cel z5 25 [.int .u32 fg, .int .u32 bg, .int .u16 fl] :: cel d 85 [.pointer (some ⟨v, 0, none⟩), .bool keeps, .int .i64 cols, .slice (some ⟨g, 0, none⟩) N p, .int .i64 top, .int .i64 bot] :: own 93 2 (.slice (some ⟨g, 0, none⟩) N p) N (lvs ps).flatten :: lrw 100 ps :: dsP v nx most SL :: H) wx) (fun _ _ => 0)
  case atStart => exact ⟨rfl, by refine sb_from ?_ hs; repeat constructor⟩
  case round =>
    clear hs
    obtain ⟨rfl, hs⟩ := hrel
    by_cases hm0 : m = 0
    · have hm1 : ¬ (f : Int) < (f : Int) + (m : Int) := by omega
      have HM0 := Lib.hid hm0
      clear hm0
      by_cases hpk : p = f + k
      · have HZR : Hid (r = 0) := Lib.hid (by have := HJ.out.2; omega)
        by_cases hjz : j = 0
        · have HZ := Lib.hid hjz
          obtain rfl : m = k := by have := HJ.out.1; omega
          exact absurd HM0.out (by omega)
        · have hpm2 : ¬ p = f + m := by have := HJ.out.1; omega
          have hkm : ¬ f + k = f + m := by have := HJ.out.1; omega
          have hkm2 : ¬ k = m := by have := HJ.out.1; omega
          clear hjz
          go_upto_region 9 with (first | ((apply apx hs.b0; exact rfl; exact rfl; exact rfl; exact rfl; exact slty83; (exact rds_mid3 HKJ.out.1 HKJ.out.2 hs.b3); exact HL2.out; exact lvs_one; omega; (unfold maxLen; omega); clear hs; intro a9 c9 w hs; rw [HS.out.1] at hs)) | ((with_reducible refine isl ?_); first | ((with_reducible apply ldx); exact rfl; exact rfl; exact rfl; (exact hs.b2); exact rfl; kernel_rfl)))
          go_upto_region 10 with (first | (go_at_call 49; refine (dfresh49 (n := m) (cols := cols) (v := v) (most := most) (SL := SL) (nx := nx) (at_ := ⟨fg, bg, fl⟩) (by omega) c0 c1 HB.out.1 (by have := HB.out.2; omega) (by (apply sk_from (hs := hs); repeat constructor))).mono ?_; clear hs; rintro e w ⟨af, cf, rfl, hs⟩; obtain ⟨pf, hpf1, hpf2, hs⟩ := ln_open (frL_len _ _ _) hs; have HPF := Lib.hid (And.intro hpf1 hpf2); have HLF : Hid ((lvs pf).flatten.length = m * 2) := Lib.hid (by rw [lvs_size, hpf2]); clear hpf1 hpf2) | ((apply apx hs.b4; exact rfl; exact rfl; exact rfl; exact rfl; exact slty83; (exact sat.own_rds hs.b0); exact HLF.out; exact lvs_one; omega; (unfold maxLen; omega); clear hs; intro a9 c9 w hs)) | ((with_reducible refine isl ?_); first | ((with_reducible apply ldsx 3); exact rfl; exact rfl; exact rfl; (exact hs.b1); exact row33; exact rfl; exact rfl)))
          go_wp2_with (first | ((apply apx hs.b0; exact rfl; exact rfl; exact rfl; exact rfl; exact slty83; (exact rds_zero2 HJ.out.2 HZR.out HL3.out); exact HL3.out; exact lvs_one; omega; (unfold maxLen; omega); clear hs; intro a9 c9 w hs; rw [HS.out.2] at hs)) | ((with_reducible refine isl ?_); first | ((with_reducible apply ldx); exact rfl; exact rfl; exact rfl; (exact hs.b3); exact rfl; kernel_rfl) | ((with_reducible apply stx); exact rfl; exact rfl; exact rfl; (exact hs.b3); exact rfl; exact rfl; exact rfl; kernel_rfl; exact rfl; clear hs; intro w hs)))
          refine end_end0 rfl rfl ⟨rfl, HG.out w a9 c9 pf _ HPF ?_⟩
          have eN : f + j + m + r = N := by have := HJ.out; omega
          rw [eN] at hs
          refine sb_from ?_ hs; repeat constructor
      · have hpm2 : ¬ p = f + m := by omega
        go_upto_region 9 with (first | ((apply apx hs.b0; exact rfl; exact rfl; exact rfl; exact rfl; exact slty83; (exact rds_mid3 HKJ.out.1 HKJ.out.2 hs.b3); exact HL2.out; exact lvs_one; omega; (unfold maxLen; omega); clear hs; intro a9 c9 w hs; rw [HS.out.1] at hs)) | ((with_reducible refine isl ?_); first | ((with_reducible apply ldx); exact rfl; exact rfl; exact rfl; (exact hs.b2); exact rfl; kernel_rfl)))
        go_upto_region 10 with (first | (go_at_call 49; refine (dfresh49 (n := m) (cols := cols) (v := v) (most := most) (SL := SL) (nx := nx) (at_ := ⟨fg, bg, fl⟩) (by omega) c0 c1 HB.out.1 (by have := HB.out.2; omega) (by (apply sk_from (hs := hs); repeat constructor))).mono ?_; clear hs; rintro e w ⟨af, cf, rfl, hs⟩; obtain ⟨pf, hpf1, hpf2, hs⟩ := ln_open (frL_len _ _ _) hs; have HPF := Lib.hid (And.intro hpf1 hpf2); have HLF : Hid ((lvs pf).flatten.length = m * 2) := Lib.hid (by rw [lvs_size, hpf2]); clear hpf1 hpf2) | ((apply apx hs.b4; exact rfl; exact rfl; exact rfl; exact rfl; exact slty83; (exact sat.own_rds hs.b0); exact HLF.out; exact lvs_one; omega; (unfold maxLen; omega); clear hs; intro a9 c9 w hs)) | ((with_reducible refine isl ?_); first | ((with_reducible apply ldsx 3); exact rfl; exact rfl; exact rfl; (exact hs.b1); exact row33; exact rfl; exact rfl)))
        go_wp2_with (first | ((apply apx hs.b0; exact rfl; exact rfl; exact rfl; exact rfl; exact slty83; (exact rds_tail2 (f := f + k) HJ.out.2 hs.b6); exact HL3.out; exact lvs_one; omega; (unfold maxLen; omega); clear hs; intro a9 c9 w hs; rw [HS.out.2] at hs)) | ((with_reducible refine isl ?_); first | ((with_reducible apply ldx); exact rfl; exact rfl; exact rfl; (exact hs.b3); exact rfl; kernel_rfl) | ((with_reducible apply stx); exact rfl; exact rfl; exact rfl; (exact hs.b3); exact rfl; exact rfl; exact rfl; kernel_rfl; exact rfl; clear hs; intro w hs)))
        refine end_end0 rfl rfl ⟨rfl, HG.out w a9 c9 pf _ HPF ?_⟩
        have eN : f + j + m + r = N := by have := HJ.out; omega
        rw [eN] at hs
        refine sb_from ?_ hs; repeat constructor
    · have hm1 : (f : Int) < (f : Int) + (m : Int) := by omega
      clear hm0
      by_cases hpk : p = f + k
      · have HZR : Hid (r = 0) := Lib.hid (by have := HJ.out.2; omega)
        by_cases hjz : j = 0
        · have HZ := Lib.hid hjz
          obtain rfl : m = k := by have := HJ.out.1; omega
          clear hjz
          go_upto_region 9 with (first | ((apply apx hs.b0; exact rfl; exact rfl; exact rfl; exact rfl; exact slty83; (exact rds_zero3 HZ.out HL2.out); exact HL2.out; exact lvs_one; omega; (unfold maxLen; omega); clear hs; intro a9 c9 w hs; rw [HS.out.1] at hs)) | ((with_reducible refine isl ?_); first | ((with_reducible apply ldx); exact rfl; exact rfl; exact rfl; (exact hs.b2); exact rfl; kernel_rfl)))
          go_upto_region 10 with (first | (go_at_call 49; refine (dfresh49 (n := m) (cols := cols) (v := v) (most := most) (SL := SL) (nx := nx) (at_ := ⟨fg, bg, fl⟩) (by omega) c0 c1 HB.out.1 (by have := HB.out.2; omega) (by (apply sk_from (hs := hs); repeat constructor))).mono ?_; clear hs; rintro e w ⟨af, cf, rfl, hs⟩; obtain ⟨pf, hpf1, hpf2, hs⟩ := ln_open (frL_len _ _ _) hs; have HPF := Lib.hid (And.intro hpf1 hpf2); have HLF : Hid ((lvs pf).flatten.length = m * 2) := Lib.hid (by rw [lvs_size, hpf2]); clear hpf1 hpf2) | ((apply apx hs.b4; exact rfl; exact rfl; exact rfl; exact rfl; exact slty83; (exact sat.own_rds hs.b0); exact HLF.out; exact lvs_one; omega; (unfold maxLen; omega); clear hs; intro a9 c9 w hs)) | ((with_reducible refine isl ?_); first | ((with_reducible apply ldsx 3); exact rfl; exact rfl; exact rfl; (exact hs.b1); exact row33; exact rfl; exact rfl)))
          go_wp2_with (first | ((apply apx hs.b0; exact rfl; exact rfl; exact rfl; exact rfl; exact slty83; (exact rds_zero2 HJ.out.2 HZR.out HL3.out); exact HL3.out; exact lvs_one; omega; (unfold maxLen; omega); clear hs; intro a9 c9 w hs; rw [HS.out.2] at hs)) | ((with_reducible refine isl ?_); first | ((with_reducible apply ldx); exact rfl; exact rfl; exact rfl; (exact hs.b3); exact rfl; kernel_rfl) | ((with_reducible apply stx); exact rfl; exact rfl; exact rfl; (exact hs.b3); exact rfl; exact rfl; exact rfl; kernel_rfl; exact rfl; clear hs; intro w hs)))
          refine end_end0 rfl rfl ⟨rfl, HG.out w a9 c9 pf _ HPF ?_⟩
          have eN : f + j + m + r = N := by have := HJ.out; omega
          rw [eN] at hs
          refine sb_from ?_ hs; repeat constructor
        · have hpm2 : ¬ p = f + m := by have := HJ.out.1; omega
          have hkm : ¬ f + k = f + m := by have := HJ.out.1; omega
          have hkm2 : ¬ k = m := by have := HJ.out.1; omega
          clear hjz
          go_upto_region 9 with (first | ((apply apx hs.b0; exact rfl; exact rfl; exact rfl; exact rfl; exact slty83; (exact rds_mid3 HKJ.out.1 HKJ.out.2 hs.b3); exact HL2.out; exact lvs_one; omega; (unfold maxLen; omega); clear hs; intro a9 c9 w hs; rw [HS.out.1] at hs)) | ((with_reducible refine isl ?_); first | ((with_reducible apply ldx); exact rfl; exact rfl; exact rfl; (exact hs.b2); exact rfl; kernel_rfl)))
          go_upto_region 10 with (first | (go_at_call 49; refine (dfresh49 (n := m) (cols := cols) (v := v) (most := most) (SL := SL) (nx := nx) (at_ := ⟨fg, bg, fl⟩) (by omega) c0 c1 HB.out.1 (by have := HB.out.2; omega) (by (apply sk_from (hs := hs); repeat constructor))).mono ?_; clear hs; rintro e w ⟨af, cf, rfl, hs⟩; obtain ⟨pf, hpf1, hpf2, hs⟩ := ln_open (frL_len _ _ _) hs; have HPF := Lib.hid (And.intro hpf1 hpf2); have HLF : Hid ((lvs pf).flatten.length = m * 2) := Lib.hid (by rw [lvs_size, hpf2]); clear hpf1 hpf2) | ((apply apx hs.b4; exact rfl; exact rfl; exact rfl; exact rfl; exact slty83; (exact sat.own_rds hs.b0); exact HLF.out; exact lvs_one; omega; (unfold maxLen; omega); clear hs; intro a9 c9 w hs)) | ((with_reducible refine isl ?_); first | ((with_reducible apply ldsx 3); exact rfl; exact rfl; exact rfl; (exact hs.b1); exact row33; exact rfl; exact rfl)))
          go_wp2_with (first | ((apply apx hs.b0; exact rfl; exact rfl; exact rfl; exact rfl; exact slty83; (exact rds_zero2 HJ.out.2 HZR.out HL3.out); exact HL3.out; exact lvs_one; omega; (unfold maxLen; omega); clear hs; intro a9 c9 w hs; rw [HS.out.2] at hs)) | ((with_reducible refine isl ?_); first | ((with_reducible apply ldx); exact rfl; exact rfl; exact rfl; (exact hs.b3); exact rfl; kernel_rfl) | ((with_reducible apply stx); exact rfl; exact rfl; exact rfl; (exact hs.b3); exact rfl; exact rfl; exact rfl; kernel_rfl; exact rfl; clear hs; intro w hs)))
          refine end_end0 rfl rfl ⟨rfl, HG.out w a9 c9 pf _ HPF ?_⟩
          have eN : f + j + m + r = N := by have := HJ.out; omega
          rw [eN] at hs
          refine sb_from ?_ hs; repeat constructor
      · have hpm2 : ¬ p = f + m := by omega
        go_upto_region 9 with (first | ((apply apx hs.b0; exact rfl; exact rfl; exact rfl; exact rfl; exact slty83; (exact rds_mid3 HKJ.out.1 HKJ.out.2 hs.b3); exact HL2.out; exact lvs_one; omega; (unfold maxLen; omega); clear hs; intro a9 c9 w hs; rw [HS.out.1] at hs)) | ((with_reducible refine isl ?_); first | ((with_reducible apply ldx); exact rfl; exact rfl; exact rfl; (exact hs.b2); exact rfl; kernel_rfl)))
        go_upto_region 10 with (first | (go_at_call 49; refine (dfresh49 (n := m) (cols := cols) (v := v) (most := most) (SL := SL) (nx := nx) (at_ := ⟨fg, bg, fl⟩) (by omega) c0 c1 HB.out.1 (by have := HB.out.2; omega) (by (apply sk_from (hs := hs); repeat constructor))).mono ?_; clear hs; rintro e w ⟨af, cf, rfl, hs⟩; obtain ⟨pf, hpf1, hpf2, hs⟩ := ln_open (frL_len _ _ _) hs; have HPF := Lib.hid (And.intro hpf1 hpf2); have HLF : Hid ((lvs pf).flatten.length = m * 2) := Lib.hid (by rw [lvs_size, hpf2]); clear hpf1 hpf2) | ((apply apx hs.b4; exact rfl; exact rfl; exact rfl; exact rfl; exact slty83; (exact sat.own_rds hs.b0); exact HLF.out; exact lvs_one; omega; (unfold maxLen; omega); clear hs; intro a9 c9 w hs)) | ((with_reducible refine isl ?_); first | ((with_reducible apply ldsx 3); exact rfl; exact rfl; exact rfl; (exact hs.b1); exact row33; exact rfl; exact rfl)))
        go_wp2_with (first | ((apply apx hs.b0; exact rfl; exact rfl; exact rfl; exact rfl; exact slty83; (exact rds_tail2 (f := f + k) HJ.out.2 hs.b6); exact HL3.out; exact lvs_one; omega; (unfold maxLen; omega); clear hs; intro a9 c9 w hs; rw [HS.out.2] at hs)) | ((with_reducible refine isl ?_); first | ((with_reducible apply ldx); exact rfl; exact rfl; exact rfl; (exact hs.b3); exact rfl; kernel_rfl) | ((with_reducible apply stx); exact rfl; exact rfl; exact rfl; (exact hs.b3); exact rfl; exact rfl; exact rfl; kernel_rfl; exact rfl; clear hs; intro w hs)))
        refine end_end0 rfl rfl ⟨rfl, HG.out w a9 c9 pf _ HPF ?_⟩
        have eN : f + j + m + r = N := by have := HJ.out; omega
        rw [eN] at hs
        refine sb_from ?_ hs; repeat constructor

end
end Go.Proofs.Ytdcagaaanbgcoaa
