/- Law 9: the document's up, the lines that go kept. -/
import Derived.Test.YtdcagaaanbgcoaaSf
import Derived.Test.YtdcagaaanbgcoaaS21
import Derived.Test.YtdcagaaanbgcoaaS20
namespace Go.Proofs.Ytdcagaaanbgcoaa
open Go.RowKit Go.Mem Go.Cells Go.Lines
variable {W w : World} {H : List HProp}
attribute [local irreducible] rowTy oneTy World.setCell World.setCells World.alloc World.drew World.drewN Calls sat cel own blk old wpQuiet wpList cmb cmb1 rwP cls rws wi wh fst_ World.rangeAt lrw lnP stP lsP dsP lvs frL downL upL pushs dcP Rds
section
variable {d v N cols most f k : Nat} {keeps : Bool} {top bot nx q to_ : Int} {L SL : List LN} {at_ : At}
set_option maxHeartbeats 4000000 in
set_option maxRecDepth 20000 in
theorem dup70_true (hn : L.length = N) (hN : N ≤ 512) (hf : f + k ≤ N) (hk : 0 < k) (hto : to_ = ((f + k : Nat) : Int) - 1) (c0 : 1 ≤ cols) (c1 : cols ≤ 512) (hnx : 0 < nx) (hnb : nx + 512 ≤ 1000000) (hok : LOK L) (hid1 : IDK nx L) (hsl : SL.length ≤ most) (hmm : most ≤ 10000)
    (hs : sat W (dcP d v ⟨keeps, cols, top, bot, L⟩ :: dsP v nx most SL :: H) w) :
    Calls Try.prog 70 #[.pointer (some ⟨d, 0, none⟩), .int .i64 (f : Int), .int .i64 to_, .int .i64 q, aV at_, .bool true] w fun e w' => e = .returned (.tuple #[]) ∧ sat W (dcP d v ⟨keeps, cols, top, bot, upL L f k (hld q k) (frL (hld q k) nx (frC cols at_))⟩ :: dsP v (nx + hld q k) most (pushs most SL ((L.drop f).take (hld q k))) :: H) w' := by
  obtain ⟨ps, a, p, HO, hs⟩ := dc_open hn hs
  obtain ⟨g, rfl⟩ := own_ptr (by omega) hs.b1
  obtain ⟨hnp, hpm⟩ := hs.b1.own_len
  have hp63 : (p : Int) ≤ 9223372036854775807 := by unfold maxLen at hpm; omega
  obtain ⟨m, hm⟩ : ∃ m, hld q k = m := ⟨_, rfl⟩
  have hmk : m ≤ k := by rw [← hm]; exact hld_le _ _
  have HM := Lib.hid hm
  rw [hm]
  obtain ⟨fg, bg, fl⟩ := at_
  have hN2 : (N : Int) ≤ 512 := by omega
  have HT := Lib.hid hto
  have ht2 : to_ ≤ 512 := by omega
  have ht3 : 0 ≤ to_ := by omega
  have HB := Lib.hid (And.intro hnx hnb)
  skip
  clear hm hn hto hnx hnb hpm
  go_enter Try.func70, Try.ntmps70
  go_upto_region 3 with (first | (go_at_call 86; refine (held86 (k := k) hk (by omega) (by have := HT.out; omega) (by omega) (by omega) hs).mono ?_; clear hs; rintro e w ⟨rfl, hs⟩; rw [HM.out]) | ((with_reducible refine isl ?_); first | ((with_reducible refine wrap hs ?_); clear hs; (generalize w.heap.size = z5); intro w hs)))
  have hs1 := hs.own_nil 93 2
  clear hs
  have hs := hs1
  clear hs1
  have HL1 : Hid ((lvs (ps.take f)).flatten.length = f * 2) := Lib.hid (by rw [lvs_size, List.length_take, HO.out.2, Nat.min_eq_left (by omega)])
  obtain ⟨j, hj⟩ : ∃ j, k = m + j := ⟨k - m, by omega⟩
  have HL2 : Hid ((lvs ((ps.drop (f + m)).take j)).flatten.length = j * 2) := Lib.hid (by rw [lvs_size, List.length_take, List.length_drop, HO.out.2, Nat.min_eq_left (by omega)])
  obtain ⟨r, hr⟩ : ∃ r, N = f + k + r := ⟨N - (f + k), by omega⟩
  have HL3 : Hid ((lvs (ps.drop (f + k))).flatten.length = r * 2) := Lib.hid (by rw [lvs_size, List.length_drop, HO.out.2, hr, Nat.add_sub_cancel_left])
  have HJ := Lib.hid (And.intro hj hr)
  clear hj hr
  go_upto_region 4 with (first | ((apply apxn hs.b0; exact rfl; exact rfl; exact rfl; exact rfl; exact slty83; (exact rds_head (f := f) (by omega) hs.b3); exact HL1.out; exact lvs_one; omega; (unfold maxLen; omega); clear hs; intro a9 c9 w hs)) | ((with_reducible refine isl ?_); first | ((with_reducible apply ldx); exact rfl; exact rfl; exact rfl; (exact hs.b2); exact rfl; kernel_rfl)))
  have e8 : to_ + 1 = (f : Int) + (k : Int) := by have := HT.out; omega
  have e12 : f + j ≤ 512 := by have := HJ.out; omega
  have e13 : f + j + m ≤ 512 := by have := HJ.out; omega
  have e14 : f + j + m + r ≤ 512 := by have := HJ.out; omega
  have HKJ : Hid (f + k = f + m + j ∧ f + k ≤ N) := Lib.hid (by have := HJ.out; omega)
  have hfm : (f : Int) + (m : Int) ≤ 512 := by omega
  have hfk : (f : Int) + (k : Int) ≤ (p : Int) := by omega
  have HS : Hid ((lvs (ps.take f)).flatten ++ (lvs ((ps.drop (f + m)).take j)).flatten = (lvs (ps.take f ++ (ps.drop (f + m)).take j)).flatten ∧ ∀ pf : List PL, (lvs (ps.take f ++ (ps.drop (f + m)).take j)).flatten ++ (lvs pf).flatten ++ (lvs (ps.drop (f + k))).flatten = (lvs (upL ps f k m pf)).flatten) := Lib.hid ⟨by simp only [lvs_app, List.flatten_append], fun pf => by
    unfold upL
    rw [show k - m = j from by have := HJ.out.1; omega]
    simp only [lvs_app, List.flatten_append]⟩
  have HG : Hid (∀ (w : World) (a9 : Option Addr) (c9 : Nat) (pf : List PL) (S2 : List LN), Hid (pf.map PL.ln = frL m nx (frC cols ⟨fg, bg, fl⟩) ∧ pf.length = m) → sat W (own 93 2 (.slice a9 N c9) N (lvs (upL ps f k m pf)).flatten :: lrw 100 ps :: lrw 100 pf :: cel d 85 [.pointer (some ⟨v, 0, none⟩), .bool keeps, .int .i64 cols, .slice a9 N c9, .int .i64 top, .int .i64 bot] :: dsP v (nx + m) most S2 :: H) w → sat W (dcP d v ⟨keeps, cols, top, bot, upL L f k m (frL m nx (frC cols ⟨fg, bg, fl⟩))⟩ :: dsP v (nx + m) most S2 :: H) w) := Lib.hid (by
    intro w a9 c9 pf S2 hpf h
    have h1 := lrw_up hmk (by rw [HO.out.2]; exact hf) (by refine sb_from ?_ h; repeat constructor : sat W (lrw 100 ps :: lrw 100 pf :: own 93 2 (.slice a9 N c9) N (lvs (upL ps f k m pf)).flatten :: cel d 85 [.pointer (some ⟨v, 0, none⟩), .bool keeps, .int .i64 cols, .slice a9 N c9, .int .i64 top, .int .i64 bot] :: dsP v (nx + m) most S2 :: H) w)
    have HU : Hid ((upL ps f k m pf).map PL.ln = upL L f k m (frL m nx (frC cols ⟨fg, bg, fl⟩)) ∧ (upL ps f k m pf).length = N) := Lib.hid ⟨by rw [upL_map, HO.out.1, hpf.out.1], by rw [upL_len _ hmk (by rw [HO.out.2]; exact hf) hpf.out.2, HO.out.2]⟩
    exact dc_close HU (by refine sb_from ?_ h1; repeat constructor))
  have HK := Lib.hid (And.intro hok (And.intro hid1 (And.intro hsl hmm)))
  clear hok hid1 hsl hmm
  go_wp2_with fail
  go_loopw [13] (fun i wx => ∃ ix : Nat, f ≤ ix ∧ ix ≤ f + m ∧ i = .int .i64 (ix : Int) ∧ sat W (own 93 2 (.slice a9 f c9) f (lvs (ps.take f)).flatten :: cel z5 25 [.int .u32 fg, .int .u32 bg, .int .u16 fl] :: cel d 85 [.pointer (some ⟨v, 0, none⟩), .bool keeps, .int .i64 cols, .slice (some ⟨g, 0, none⟩) N p, .int .i64 top, .int .i64 bot] :: own 93 2 (.slice (some ⟨g, 0, none⟩) N p) N (lvs ps).flatten :: lrw 100 ps :: dsP v nx most (pushs most SL ((L.drop f).take (ix - f))) :: H) wx) (fun i _ => ((f : Int) + (m : Int) - intOf i).toNat)
  case atStart => exact ⟨f, Nat.le_refl _, by omega, rfl, by rw [Nat.sub_self, List.take_zero, show pushs most SL [] = SL from by unfold pushs; rfl]; refine sb_from ?_ hs; repeat constructor⟩
  case round =>
    clear hs
    obtain ⟨ix, hx0, hx1, rfl, hs⟩ := hrel
    by_cases hin : ix < f + m
    · have hin2 : (ix : Int) < (f : Int) + (m : Int) := by omega
      have hixp : ix < N := by omega
      obtain ⟨⟨xid, xb, xl⟩, hx⟩ : ∃ x, ps[ix]? = some x := ⟨_, List.getElem?_eq_getElem (by rw [HO.out.2]; exact hixp)⟩
      have hx2 : L[ix]? = some (xid, xl) := by rw [← HO.out.1, List.getElem?_map, hx]; rfl
      have hx3 : (L.drop f)[ix - f]? = some (xid, xl) := by rw [List.getElem?_drop, show f + (ix - f) = ix from by omega]; exact hx2
      have HP := Lib.hid (pushs_succ (most := most) (SL := SL) hx3)
      have hmem : (xid, xl) ∈ L := List.mem_of_getElem? hx2
      obtain ⟨m0, m1, m2⟩ := HK.out.1 _ hmem
      have HID := Lib.hid (HK.out.2.1 _ hmem)
      simp only at m0 m1 m2 HID
      obtain ⟨n0, hn0⟩ : ∃ n0, xl.length = n0 := ⟨_, rfl⟩
      rw [hn0] at m0 m1
      have HLL := Lib.hid hn0
      have HOK := Lib.hid m2
      have HX := Lib.hid hx
      have HX0 := Lib.hid (lvs_at hx).1
      have HX1 := Lib.hid (lvs_at hx).2
      have HPL := Lib.hid (pushs_le ((L.drop f).take (ix - f)) SL HK.out.2.2.1)
      have hs1 := lrw_at hx hs.b4
      have eN : f + 0 ≤ N := by omega
      clear hx hx2 hx3 hmem m2 hn0 hs
      have hs : sat W (own 93 2 (.slice a9 f c9) f (lvs (ps.take f)).flatten :: cel z5 25 [.int .u32 fg, .int .u32 bg, .int .u16 fl] :: cel d 85 [.pointer (some ⟨v, 0, none⟩), .bool keeps, .int .i64 cols, .slice (some ⟨g, 0, none⟩) N p, .int .i64 top, .int .i64 bot] :: own 93 2 (.slice (some ⟨g, 0, none⟩) N p) N (lvs ps).flatten :: rwP 100 xb xl :: lrw 100 (ps.take ix) :: lrw 100 (ps.drop (ix + 1)) :: dsP v nx most (pushs most SL ((L.drop f).take (ix - f))) :: H) wr := by refine sb_from ?_ hs1; repeat constructor
      clear hs1
      go_upto_region 7 with (fail)
      refine region_mix [([0, 1, 2, 3, 4, 5, 6, 7, 8, 9, 10, 11, 12, 13, 14, 15, 16, 17, 18, 19], [20])] [] hs (fun _ h => by (show sat W [cel d 85 [.pointer (some ⟨v, 0, none⟩), .bool keeps, .int .i64 cols, .slice (some ⟨g, 0, none⟩) N p, .int .i64 top, .int .i64 bot], own 93 2 (.slice (some ⟨g, 0, none⟩) N p) N (lvs ps).flatten] _; refine sb_from ?_ h; repeat constructor)) (by kernel_rfl) (by kernel_rfl) (fun _ _ _ _ _ h => h) ?_
      simp only [segs, nths, nth, List.append_nil, List.nil_append, List.cons_append, List.map_cons, List.map_nil]
      refine seg_reads (fun _ h => by (show sat W [cel d 85 [.pointer (some ⟨v, 0, none⟩), .bool keeps, .int .i64 cols, .slice (some ⟨g, 0, none⟩) N p, .int .i64 top, .int .i64 bot], own 93 2 (.slice (some ⟨g, 0, none⟩) N p) N (lvs ps).flatten] _; refine sb_from ?_ h; repeat constructor)) ?_; intro X f hne hf hcl; (try simp only [Act.put, List.setIfInBounds_toArray, List.set_cons_succ, List.set_cons_zero]); (repeat ((first | ((with_reducible apply ldoq (fun x => (hf x).b1)); exact rfl; exact rfl; exact rfl; (first | exact HX0.out | exact HX1.out); kernel_rfl) | ((with_reducible apply ldqx); exact rfl; exact rfl; exact rfl; (exact fun x => (hf x).b0); exact rfl; kernel_rfl) | go_big_quiet_step (fail)); (try simp only [Act.put, List.setIfInBounds_toArray, List.set_cons_succ, List.set_cons_zero]))); refine wpQuiet_nil ?_; clear hcl hf hne hs f X; intro w hs
      go_wp2_with ((go_at_call 72; refine (rpush23 (b2 := xb) HLL.out m0 m1 HOK.out HID.out HPL.out HK.out.2.2.2 (by (apply sk_from (hs := hs); repeat constructor))).mono ?_; clear hs; rintro e w ⟨rfl, hs⟩; rw [← HP.out] at hs))
      (refine seg_on hs (fun _ h => h) ?_ ?_)
      · exact fun _ h => by (show sat W [cel d 85 [.pointer (some ⟨v, 0, none⟩), .bool keeps, .int .i64 cols, .slice (some ⟨g, 0, none⟩) N p, .int .i64 top, .int .i64 bot], own 93 2 (.slice (some ⟨g, 0, none⟩) N p) N (lvs ps).flatten] _; refine sb_from ?_ h; repeat constructor)
      clear hs; intro hs
      refine seg_last (fun _ h => by (show sat W [cel d 85 [.pointer (some ⟨v, 0, none⟩), .bool keeps, .int .i64 cols, .slice (some ⟨g, 0, none⟩) N p, .int .i64 top, .int .i64 bot], own 93 2 (.slice (some ⟨g, 0, none⟩) N p) N (lvs ps).flatten] _; refine sb_from ?_ h; repeat constructor)) ?_; intro X f hne hf hcl; (try simp only [Act.put, List.setIfInBounds_toArray, List.set_cons_succ, List.set_cons_zero]); (repeat ((fail); (try simp only [Act.put, List.setIfInBounds_toArray, List.set_cons_succ, List.set_cons_zero]))); refine wpQuiet_nil ?_; clear hcl hf hne hs f X; intro w hs
      go_wp2_with fail
      go_roundw
      case rel =>
        refine ⟨ix + 1, by omega, by omega, by go_num, ?_⟩
        rw [show ix + 1 - f = ix - f + 1 from by omega]
        have h4 := lrw_put (l := ps) (i := ix) (y := ⟨xid, xb, xl⟩) (List.getElem?_eq_some_iff.1 HX.out).1 (by refine sb_from ?_ hs; repeat constructor : sat W (rwP 100 xb xl :: lrw 100 (ps.take ix) :: lrw 100 (ps.drop (ix + 1)) :: own 93 2 (.slice a9 f c9) f (lvs (ps.take f)).flatten :: cel z5 25 [.int .u32 fg, .int .u32 bg, .int .u16 fl] :: cel d 85 [.pointer (some ⟨v, 0, none⟩), .bool keeps, .int .i64 cols, .slice (some ⟨g, 0, none⟩) N p, .int .i64 top, .int .i64 bot] :: own 93 2 (.slice (some ⟨g, 0, none⟩) N p) N (lvs ps).flatten :: dsP v nx most (pushs most SL ((L.drop f).take (ix - f + 1))) :: H) w)
        rw [set_same HX.out] at h4
        refine sb_from ?_ h4; repeat constructor
      case measure => simp [intOf]; omega
    · have hge : ¬ (ix : Int) < (f : Int) + (m : Int) := by omega
      have eix : ix - f = m := by omega
      rw [eix] at hs
      clear hin eix
      by_cases hpk : p = f + k
      · have HZR : Hid (r = 0) := Lib.hid (by have := HJ.out.2; omega)
        by_cases hjz : j = 0
        · have HZ := Lib.hid hjz
          obtain rfl : m = k := by have := HJ.out.1; omega
          clear hjz
          go_upto_region 9 with (first | ((apply apx hs.b0; exact rfl; exact rfl; exact rfl; exact rfl; exact slty83; (exact rds_zero3 HZ.out HL2.out); exact HL2.out; exact lvs_one; omega; (unfold maxLen; omega); clear hs; intro a9 c9 w hs; rw [HS.out.1] at hs)) | ((with_reducible refine isl ?_); first | ((with_reducible apply ldx); exact rfl; exact rfl; exact rfl; (exact hs.b2); exact rfl; kernel_rfl)))
          go_upto_region 10 with (first | (go_at_call 49; refine (dfresh49 (n := m) (cols := cols) (v := v) (most := most) (SL := (pushs most SL ((L.drop f).take m))) (nx := nx) (at_ := ⟨fg, bg, fl⟩) (by omega) c0 c1 HB.out.1 (by have := HB.out.2; omega) (by (apply sk_from (hs := hs); repeat constructor))).mono ?_; clear hs; rintro e w ⟨af, cf, rfl, hs⟩; obtain ⟨pf, hpf1, hpf2, hs⟩ := ln_open (frL_len _ _ _) hs; have HPF := Lib.hid (And.intro hpf1 hpf2); have HLF : Hid ((lvs pf).flatten.length = m * 2) := Lib.hid (by rw [lvs_size, hpf2]); clear hpf1 hpf2) | ((apply apx hs.b4; exact rfl; exact rfl; exact rfl; exact rfl; exact slty83; (exact sat.own_rds hs.b0); exact HLF.out; exact lvs_one; omega; (unfold maxLen; omega); clear hs; intro a9 c9 w hs)) | ((with_reducible refine isl ?_); first | ((with_reducible apply ldsx 3); exact rfl; exact rfl; exact rfl; (exact hs.b1); exact row33; exact rfl; exact rfl)))
          go_wp2_with (first | ((apply apx hs.b0; exact rfl; exact rfl; exact rfl; exact rfl; exact slty83; (exact rds_zero2 HJ.out.2 HZR.out HL3.out); exact HL3.out; exact lvs_one; omega; (unfold maxLen; omega); clear hs; intro a9 c9 w hs; rw [HS.out.2] at hs)) | ((with_reducible refine isl ?_); first | ((with_reducible apply ldx); exact rfl; exact rfl; exact rfl; (exact hs.b3); exact rfl; kernel_rfl) | ((with_reducible apply stx); exact rfl; exact rfl; exact rfl; (exact hs.b3); exact rfl; exact rfl; exact rfl; kernel_rfl; exact rfl; clear hs; intro w hs)))
          refine end_end0 rfl rfl ⟨rfl, HG.out w a9 c9 pf _ HPF ?_⟩
          have eN : f + j + m + r = N := by have := HJ.out; omega
          rw [eN] at hs
          refine sb_from ?_ hs; repeat constructor
        · have hpm2 : ¬ p = f + m := by have := HJ.out.1; omega
          have hkm : ¬ f + k = f + m := by have := HJ.out.1; omega
          have hkm2 : ¬ k = m := by have := HJ.out.1; omega
          clear hjz
          go_upto_region 9 with (first | ((apply apx hs.b0; exact rfl; exact rfl; exact rfl; exact rfl; exact slty83; (exact rds_mid3 HKJ.out.1 HKJ.out.2 hs.b3); exact HL2.out; exact lvs_one; omega; (unfold maxLen; omega); clear hs; intro a9 c9 w hs; rw [HS.out.1] at hs)) | ((with_reducible refine isl ?_); first | ((with_reducible apply ldx); exact rfl; exact rfl; exact rfl; (exact hs.b2); exact rfl; kernel_rfl)))
          go_upto_region 10 with (first | (go_at_call 49; refine (dfresh49 (n := m) (cols := cols) (v := v) (most := most) (SL := (pushs most SL ((L.drop f).take m))) (nx := nx) (at_ := ⟨fg, bg, fl⟩) (by omega) c0 c1 HB.out.1 (by have := HB.out.2; omega) (by (apply sk_from (hs := hs); repeat constructor))).mono ?_; clear hs; rintro e w ⟨af, cf, rfl, hs⟩; obtain ⟨pf, hpf1, hpf2, hs⟩ := ln_open (frL_len _ _ _) hs; have HPF := Lib.hid (And.intro hpf1 hpf2); have HLF : Hid ((lvs pf).flatten.length = m * 2) := Lib.hid (by rw [lvs_size, hpf2]); clear hpf1 hpf2) | ((apply apx hs.b4; exact rfl; exact rfl; exact rfl; exact rfl; exact slty83; (exact sat.own_rds hs.b0); exact HLF.out; exact lvs_one; omega; (unfold maxLen; omega); clear hs; intro a9 c9 w hs)) | ((with_reducible refine isl ?_); first | ((with_reducible apply ldsx 3); exact rfl; exact rfl; exact rfl; (exact hs.b1); exact row33; exact rfl; exact rfl)))
          go_wp2_with (first | ((apply apx hs.b0; exact rfl; exact rfl; exact rfl; exact rfl; exact slty83; (exact rds_zero2 HJ.out.2 HZR.out HL3.out); exact HL3.out; exact lvs_one; omega; (unfold maxLen; omega); clear hs; intro a9 c9 w hs; rw [HS.out.2] at hs)) | ((with_reducible refine isl ?_); first | ((with_reducible apply ldx); exact rfl; exact rfl; exact rfl; (exact hs.b3); exact rfl; kernel_rfl) | ((with_reducible apply stx); exact rfl; exact rfl; exact rfl; (exact hs.b3); exact rfl; exact rfl; exact rfl; kernel_rfl; exact rfl; clear hs; intro w hs)))
          refine end_end0 rfl rfl ⟨rfl, HG.out w a9 c9 pf _ HPF ?_⟩
          have eN : f + j + m + r = N := by have := HJ.out; omega
          rw [eN] at hs
          refine sb_from ?_ hs; repeat constructor
      · have hpm2 : ¬ p = f + m := by omega
        go_upto_region 9 with (first | ((apply apx hs.b0; exact rfl; exact rfl; exact rfl; exact rfl; exact slty83; (exact rds_mid3 HKJ.out.1 HKJ.out.2 hs.b3); exact HL2.out; exact lvs_one; omega; (unfold maxLen; omega); clear hs; intro a9 c9 w hs; rw [HS.out.1] at hs)) | ((with_reducible refine isl ?_); first | ((with_reducible apply ldx); exact rfl; exact rfl; exact rfl; (exact hs.b2); exact rfl; kernel_rfl)))
        go_upto_region 10 with (first | (go_at_call 49; refine (dfresh49 (n := m) (cols := cols) (v := v) (most := most) (SL := (pushs most SL ((L.drop f).take m))) (nx := nx) (at_ := ⟨fg, bg, fl⟩) (by omega) c0 c1 HB.out.1 (by have := HB.out.2; omega) (by (apply sk_from (hs := hs); repeat constructor))).mono ?_; clear hs; rintro e w ⟨af, cf, rfl, hs⟩; obtain ⟨pf, hpf1, hpf2, hs⟩ := ln_open (frL_len _ _ _) hs; have HPF := Lib.hid (And.intro hpf1 hpf2); have HLF : Hid ((lvs pf).flatten.length = m * 2) := Lib.hid (by rw [lvs_size, hpf2]); clear hpf1 hpf2) | ((apply apx hs.b4; exact rfl; exact rfl; exact rfl; exact rfl; exact slty83; (exact sat.own_rds hs.b0); exact HLF.out; exact lvs_one; omega; (unfold maxLen; omega); clear hs; intro a9 c9 w hs)) | ((with_reducible refine isl ?_); first | ((with_reducible apply ldsx 3); exact rfl; exact rfl; exact rfl; (exact hs.b1); exact row33; exact rfl; exact rfl)))
        go_wp2_with (first | ((apply apx hs.b0; exact rfl; exact rfl; exact rfl; exact rfl; exact slty83; (exact rds_tail2 (f := f + k) HJ.out.2 hs.b6); exact HL3.out; exact lvs_one; omega; (unfold maxLen; omega); clear hs; intro a9 c9 w hs; rw [HS.out.2] at hs)) | ((with_reducible refine isl ?_); first | ((with_reducible apply ldx); exact rfl; exact rfl; exact rfl; (exact hs.b3); exact rfl; kernel_rfl) | ((with_reducible apply stx); exact rfl; exact rfl; exact rfl; (exact hs.b3); exact rfl; exact rfl; exact rfl; kernel_rfl; exact rfl; clear hs; intro w hs)))
        refine end_end0 rfl rfl ⟨rfl, HG.out w a9 c9 pf _ HPF ?_⟩
        have eN : f + j + m + r = N := by have := HJ.out; omega
        rw [eN] at hs
        refine sb_from ?_ hs; repeat constructor

end
end Go.Proofs.Ytdcagaaanbgcoaa
namespace Go.Proofs.Ytdcagaaanbgcoaa
open Go.RowKit Go.Mem Go.Cells Go.Lines
variable {W w : World} {H : List HProp}
attribute [local irreducible] rowTy oneTy World.setCell World.setCells World.alloc World.drew World.drewN Calls sat cel own blk old wpQuiet wpList cmb cmb1 rwP cls rws wi wh fst_ World.rangeAt lrw lnP stP lsP dsP lvs frL downL upL pushs dcP
section
variable {d v N cols most f k : Nat} {keeps : Bool} {top bot nx q : Int} {L SL : List LN} {at_ : At}
theorem dset54 {t2 b2 : Int} (hn : L.length = N) (h5 : N ≤ 512) (hP : MOK N t2 b2) (hs : sat W (dcP d v ⟨keeps, cols, top, bot, L⟩ :: H) w) :
    Calls Try.prog 54 #[.pointer (some ⟨d, 0, none⟩), .int .i64 t2, .int .i64 b2] w fun e w' => e = .returned (.int .i64 0) ∧ sat W (dcP d v ⟨keeps, cols, t2, b2, L⟩ :: H) w' := by
  obtain ⟨ps, a, p, HO, hs⟩ := dc_open hn hs
  unfold MOK at hP
  have h63 : (N : Int) ≤ 512 := by omega
  clear hn h5
  by_cases hw : t2 = 0 ∧ b2 = (N : Int) - 1
  · obtain ⟨rfl, hb⟩ := hw
    have f1 : (b2 == (N : Int) - 1) = true := beq_iff_eq.2 (by omega)
    have f1' : decide (b2 = (N : Int) - 1) = true := decide_eq_true (by omega)
    clear hb hP
    go_enter Try.func54, Try.ntmps54
    go_wp2_with (((with_reducible refine isl ?_); first | ((with_reducible apply ldx); exact rfl; exact rfl; exact rfl; (exact hs.b0); exact rfl; kernel_rfl) | ((with_reducible apply stx); exact rfl; exact rfl; exact rfl; (exact hs.b0); exact rfl; exact rfl; exact rfl; kernel_rfl; exact rfl; clear hs; intro w hs)))
    go_ret
    exact ⟨rfl, dc_close HO (by refine sb_from ?_ hs; repeat constructor)⟩
  · by_cases hz : t2 = 0
    · subst hz
      have f1 : (b2 == (N : Int) - 1) = false := beq_eq_false_iff_ne.2 (by omega)
      have f1' : decide (b2 = (N : Int) - 1) = false := decide_eq_false (by omega)
      have k2 : decide (0 < b2) = true := decide_eq_true (by omega)
      have k3 : decide (b2 < (N : Int)) = true := decide_eq_true (by omega)
      clear hw hP
      go_enter Try.func54, Try.ntmps54
      go_wp2_with (((with_reducible refine isl ?_); first | ((with_reducible apply ldx); exact rfl; exact rfl; exact rfl; (exact hs.b0); exact rfl; kernel_rfl) | ((with_reducible apply stx); exact rfl; exact rfl; exact rfl; (exact hs.b0); exact rfl; exact rfl; exact rfl; kernel_rfl; exact rfl; clear hs; intro w hs)))
      go_ret
      exact ⟨rfl, dc_close HO (by refine sb_from ?_ hs; repeat constructor)⟩
    · skip
      have f1 : (t2 == 0) = false := beq_eq_false_iff_ne.2 (by omega)
      have f1' : decide (t2 = 0) = false := decide_eq_false (by omega)
      have k1 : decide (0 ≤ t2) = true := decide_eq_true (by omega)
      have k2 : decide (t2 < b2) = true := decide_eq_true (by omega)
      have k3 : decide (b2 < (N : Int)) = true := decide_eq_true (by omega)
      clear hw hP hz
      go_enter Try.func54, Try.ntmps54
      go_wp2_with (((with_reducible refine isl ?_); first | ((with_reducible apply ldx); exact rfl; exact rfl; exact rfl; (exact hs.b0); exact rfl; kernel_rfl) | ((with_reducible apply stx); exact rfl; exact rfl; exact rfl; (exact hs.b0); exact rfl; exact rfl; exact rfl; kernel_rfl; exact rfl; clear hs; intro w hs)))
      go_ret
      exact ⟨rfl, dc_close HO (by refine sb_from ?_ hs; repeat constructor)⟩
theorem dset54_no {t2 b2 : Int} (hn : L.length = N) (h5 : N ≤ 512) (hP : ¬ MOK N t2 b2) (hs : sat W (dcP d v ⟨keeps, cols, top, bot, L⟩ :: H) w) :
    Calls Try.prog 54 #[.pointer (some ⟨d, 0, none⟩), .int .i64 t2, .int .i64 b2] w fun e w' => e = .returned (.int .i64 2) ∧ sat W (dcP d v ⟨keeps, cols, top, bot, L⟩ :: H) w' := by
  obtain ⟨ps, a, p, HO, hs⟩ := dc_open hn hs
  unfold MOK at hP
  have h63 : (N : Int) ≤ 512 := by omega
  clear hn h5
  have hw : ¬ (t2 = 0 ∧ b2 = (N : Int) - 1) := fun h => hP (.inl h)
  have hx : ¬ (0 ≤ t2 ∧ t2 < b2 ∧ b2 < (N : Int)) := fun h => hP (.inr h)
  clear hP
  by_cases hz : t2 = 0
  · subst hz
    have f1 : (b2 == (N : Int) - 1) = false := beq_eq_false_iff_ne.2 (by omega)
    have f1' : decide (b2 = (N : Int) - 1) = false := decide_eq_false (by omega)
    by_cases h2 : 0 < b2
    · skip
      have k2 : decide (0 < b2) = true := decide_eq_true (by omega)
      have k3 : decide (b2 < (N : Int)) = false := decide_eq_false (by omega)
      clear hw hx h2
      go_enter Try.func54, Try.ntmps54
      go_wp2_with (((with_reducible refine isl ?_); first | ((with_reducible apply ldx); exact rfl; exact rfl; exact rfl; (exact hs.b0); exact rfl; kernel_rfl)))
      go_ret
      exact ⟨rfl, dc_close HO (by refine sb_from ?_ hs; repeat constructor)⟩
    · skip
      have k2 : decide (0 < b2) = false := decide_eq_false (by omega)
      clear hw hx h2
      go_enter Try.func54, Try.ntmps54
      go_wp2_with (((with_reducible refine isl ?_); first | ((with_reducible apply ldx); exact rfl; exact rfl; exact rfl; (exact hs.b0); exact rfl; kernel_rfl)))
      go_ret
      exact ⟨rfl, dc_close HO (by refine sb_from ?_ hs; repeat constructor)⟩
  · skip
    have f1 : (t2 == 0) = false := beq_eq_false_iff_ne.2 (by omega)
    have f1' : decide (t2 = 0) = false := decide_eq_false (by omega)
    by_cases h1 : 0 ≤ t2
    · by_cases h2 : t2 < b2
      · skip
        have k1 : decide (0 ≤ t2) = true := decide_eq_true (by omega)
        have k2 : decide (t2 < b2) = true := decide_eq_true (by omega)
        have k3 : decide (b2 < (N : Int)) = false := decide_eq_false (by omega)
        clear hw hx h2 h1 hz
        go_enter Try.func54, Try.ntmps54
        go_wp2_with (((with_reducible refine isl ?_); first | ((with_reducible apply ldx); exact rfl; exact rfl; exact rfl; (exact hs.b0); exact rfl; kernel_rfl)))
        go_ret
        exact ⟨rfl, dc_close HO (by refine sb_from ?_ hs; repeat constructor)⟩
      · skip
        have k1 : decide (0 ≤ t2) = true := decide_eq_true (by omega)
        have k2 : decide (t2 < b2) = false := decide_eq_false (by omega)
        clear hw hx h2 h1 hz
        go_enter Try.func54, Try.ntmps54
        go_wp2_with (fail)
        go_ret
        exact ⟨rfl, dc_close HO (by refine sb_from ?_ hs; repeat constructor)⟩
    · skip
      have k1 : decide (0 ≤ t2) = false := decide_eq_false (by omega)
      clear hw hx h1 hz
      go_enter Try.func54, Try.ntmps54
      go_wp2_with (fail)
      go_ret
      exact ⟨rfl, dc_close HO (by refine sb_from ?_ hs; repeat constructor)⟩
end
end Go.Proofs.Ytdcagaaanbgcoaa
