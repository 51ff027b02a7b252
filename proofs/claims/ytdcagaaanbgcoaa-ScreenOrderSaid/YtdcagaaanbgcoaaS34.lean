/- Law 9: ScreenOrder. -/
import Derived.Test.YtdcagaaanbgcoaaSf
import Derived.Test.YtdcagaaanbgcoaaS31
import Derived.Test.YtdcagaaanbgcoaaS33
namespace Go.Proofs.Ytdcagaaanbgcoaa
open Go.RowKit Go.Mem Go.Cells Go.Lines
variable {W w : World} {H : List HProp}
theorem inv_one {most : Nat} : Inv most ⟨false, 1, 0, ((1 : Nat) : Int) - 1, frL 1 1 (frC 1 At.z)⟩ (1 + ((1 : Nat) : Int)) [] := inv_new (by decide) (by decide) (by decide) (by decide)
attribute [local irreducible] rowTy oneTy World.setCell World.setCells World.alloc World.drew World.drewN Calls sat cel own blk old wpQuiet wpList cmb cmb1 rwP cls rws wi wh fst_ World.rangeAt lrw lnP stP lsP dsP lvs frL downL upL pushs dcP Rds scP act la pk idv ffst
theorem len30_at {ps : List PL} {i b2 mm : Nat} {id : Int} {l : List C} (hx : ps[i]? = some ⟨id, b2, l⟩) (hl : l.length = mm) (m0 : 0 < mm) (hs : sat W (lrw 96 ps :: H) w) :
    Calls Try.prog 30 #[.pointer (some ⟨b2, 0, none⟩)] w fun e w' => e = .returned (.int .i64 mm) ∧ sat W (lrw 96 ps :: H) w' := by
  refine (len27 hl m0 (lrw_at hx hs)).mono ?_
  rintro e w' ⟨rfl, h⟩
  have h1 := lrw_put (l := ps) (i := i) (y := ⟨id, b2, l⟩) (List.getElem?_eq_some_iff.1 hx).1 h
  rw [set_same hx] at h1
  exact ⟨rfl, h1⟩
set_option maxHeartbeats 8000000 in
set_option maxRecDepth 20000 in
theorem order5 {rows cols most : Int} {keeps : Bool} {aS : Option Addr} {nS cS : Nat} {ops : List Op} (S : SR 9 W H aS nS cS (ops.map opL)) (hs : sat W H w) :
    Calls Try.prog 5 #[.int .i64 rows, .int .i64 cols, .int .i64 most, .bool keeps, .slice aS nS cS] w fun e w' => e = .returned (.bool true) ∧ sat W H w' := by
  have HS := Lib.hid S
  have hl : nS = ops.length := by have := S.1; rwa [List.length_map] at this
  have HL := Lib.hid hl
  clear S hl
  by_cases hT : tameP rows cols most ops
  case neg =>
    have HF := Lib.hid hT
    go_enter Try.func5, Try.ntmps5
    go_wp2_with (first | (go_at_call 25; refine (tame25 HS.out hs).mono ?_; clear hs; rintro e w ⟨tv, rfl, HT, hs⟩; obtain rfl : tv = .bool false := HT.out.elim (fun h => h.1) (fun h => absurd h.2 HF.out)) | (go_at_call 7; refine (known7 (by (apply sk_from (hs := hs); repeat constructor))).mono ?_; clear hs; rintro e w ⟨rfl, hs⟩))
    go_ret
    exact ⟨rfl, hs⟩
  have HTT := Lib.hid hT
  obtain ⟨t1, t2, t3, t4, t5, t6⟩ := hT
  obtain ⟨M, rfl⟩ : ∃ M : Nat, most = (M : Int) := ⟨most.toNat, by omega⟩
  have HM : Hid (M ≤ 10000 ∧ nS ≤ 60) := Lib.hid (by have := HL.out; omega)
  have HT6 := Lib.hid t6
  have hmax : (nS : Int) ≤ 1000 := by have := HL.out; omega
  by_cases hm : (1 ≤ rows ∧ rows ≤ 512) ∧ (1 ≤ cols ∧ cols ≤ 512)
  case neg =>
    have HMM := Lib.hid hm
    clear hm t1 t2 t3 t4 t5 t6
    go_enter Try.func5, Try.ntmps5
    go_wp2_with (first | (go_at_call 25; refine (tame25 HS.out hs).mono ?_; clear hs; rintro e w ⟨tv, rfl, HT, hs⟩; obtain rfl : tv = .bool true := HT.out.elim (fun h => absurd HTT.out h.2) (fun h => h.1)) | (go_at_call 8; refine (smade8_no (most := M) HMM.out HM.out.1 hs).mono ?_; clear hs; rintro e w ⟨s, rfl, hs⟩) | (go_at_call 7; refine (known7 (by (apply sk_from (hs := hs); repeat constructor))).mono ?_; clear hs; rintro e w ⟨rfl, hs⟩))
    go_ret
    exact ⟨rfl, hs.drop⟩
  obtain ⟨N, rfl⟩ : ∃ N : Nat, rows = (N : Int) := ⟨rows.toNat, by omega⟩
  obtain ⟨K, rfl⟩ : ∃ K : Nat, cols = (K : Int) := ⟨cols.toNat, by omega⟩
  have HB : Hid (1 ≤ N ∧ N ≤ 12 ∧ 1 ≤ K ∧ K ≤ 20 ∧ N ≤ 512 ∧ K ≤ 512) := Lib.hid (by omega)
  clear hm t1 t2 t3 t4 t5 t6
  go_enter Try.func5, Try.ntmps5
  go_wp2_with (first | (go_at_call 25; refine (tame25 HS.out hs).mono ?_; clear hs; rintro e w ⟨tv, rfl, HT, hs⟩; obtain rfl : tv = .bool true := HT.out.elim (fun h => absurd HTT.out h.2) (fun h => h.1)) | (go_at_call 8; refine (smade8 (rows := N) (cols := K) (most := M) HB.out.1 HB.out.2.2.2.2.1 HB.out.2.2.1 HB.out.2.2.2.2.2 HM.out.1 hs).mono ?_; clear hs; rintro e w ⟨b, s, rfl, hs⟩) | (go_at_call 27; refine (rnew18 (most := 0) (by (apply sk_from (hs := hs); repeat constructor))).mono ?_; clear hs; rintro e w ⟨v, rfl, hs⟩) | (go_at_call 26; refine (dnew26 (N := 1) (cols := 1) (v := v) (most := 0) (SL := []) (nx := 1) (keeps := false) (by decide) (by decide) (by decide) (by decide) (by decide) (by (apply sk_from (hs := hs); repeat constructor))).mono ?_; clear hs; rintro e w ⟨d, rfl, hs⟩))
  have hs1 : sat W (scP b s ⟨keeps, K, 0, (N : Int) - 1, frL N 1 (frC K At.z)⟩ :: stP s M (1 + (N : Int)) [] :: dcP d v ⟨false, 1, 0, ((1 : Nat) : Int) - 1, frL 1 1 (frC 1 At.z)⟩ :: dsP v (1 + ((1 : Nat) : Int)) 0 [] :: H) w := by refine sb_from ?_ hs; repeat constructor
  clear hs
  have hs := hs1
  clear hs1
  go_loopw [49, 0, 1] (fun i vr vc wx => ∃ (i0 N1 K1 : Nat) (X Y : Sc) (nx ny : Int) (SL SY : List LN), i0 ≤ nS ∧ i = .int .i64 (i0 : Int) ∧ vr = .int .i64 (N1 : Int) ∧ vc = .int .i64 (K1 : Int) ∧ Hid (Inv M X nx SL ∧ Inv 0 Y ny SY ∧ X.L.length = N1 ∧ X.cols = K1) ∧ Hid (nx ≤ 13 + 12 * (i0 : Int) ∧ ny ≤ 13 + 12 * (i0 : Int)) ∧ sat W (scP b s X :: stP s M nx SL :: dcP d v Y :: dsP v ny 0 SY :: H) wx) (fun i _ _ _ => ((nS : Int) - intOf i).toNat)
  case atStart => exact ⟨0, N, K, _, _, _, _, _, _, Nat.zero_le _, rfl, rfl, rfl, Lib.hid ⟨inv_new HB.out.1 HB.out.2.1 HB.out.2.2.1 HB.out.2.2.2.1, inv_one, frL_len _ _ _, rfl⟩, Lib.hid ⟨by have := HB.out; omega, by omega⟩, hs⟩
  case round =>
    clear hs
    obtain ⟨i0, N1, K1, X, Y, nx, ny, SL, SY, hi, rfl, rfl, rfl, HI, HX, hs⟩ := hrel
    by_cases hin : i0 < nS
    case neg =>
      have hge : ¬ (i0 : Int) < (nS : Int) := by omega
      clear hin
      go_wp2_with ((go_at_call 7; refine (known7 (by (apply sk_from (hs := hs); repeat constructor))).mono ?_; clear hs; rintro e w ⟨rfl, hs⟩))
      go_ret
      exact ⟨rfl, hs.dropN 4⟩
    obtain ⟨⟨kind, at2, n, cc, r, wide, ⟨fg, bg, fl⟩⟩, hx, g1, o1, rfl, hcc⟩ := HS.out.getm (hs.dropN 4) hin
    have HCC := Lib.hid hcc
    have hin2 : (i0 : Int) < (nS : Int) := by omega
    have HNB : Hid (nx + 512 ≤ 1000000 ∧ ny + 512 ≤ 1000000) := Lib.hid (by have h1 := HX.out; have h2 := HM.out.2; omega)
    have HIA := Lib.hid (HI.out.1.nxt (o := ⟨kind, at2, n, cc, r, wide, ⟨fg, bg, fl⟩⟩) (fun h => HT6.out _ (List.mem_of_getElem? hx) h))
    have HIS := Lib.hid (act_size (o := ⟨kind, at2, n, cc, r, wide, ⟨fg, bg, fl⟩⟩) HI.out.1)
    have HT7 : Hid (kind = 6 → n ≤ 12 ∧ cc ≤ 20) := Lib.hid (fun h => HT6.out _ (List.mem_of_getElem? hx) h)
    have HX0 : Hid (0 < nx) := Lib.hid HI.out.1.nx0
    clear hcc hx
    obtain ⟨N0, hN0⟩ : ∃ N0, X.L.length = N0 := ⟨_, rfl⟩
    have HN0 : Hid (X.L.length = N0 ∧ 0 < N0 ∧ N0 ≤ 512) := Lib.hid (by have := HI.out.1.n0; have := HI.out.1.n5; omega)
    obtain ⟨L, hL⟩ : ∃ L, X.L = L := ⟨_, rfl⟩
    have HL0 : Hid (L.length = N0 ∧ IDK nx L ∧ NDK L ∧ idv X.L = idv L) := Lib.hid (by rw [← hL]; exact ⟨hN0, HI.out.1.idk, HI.out.1.ndk, rfl⟩)
    have HXL := Lib.hid hL
    clear hN0 hL
    go_upto_region 12 with (first | (go_at_call 11; refine (ids_k (l := idv L) (Lib.hid HL0.out.2.2.2) HN0.out.1 HN0.out.2.1 HN0.out.2.2 (by (apply sk_from (hs := hs); repeat constructor))).mono ?_; clear hs; rintro e w ⟨aw, cw, rfl, hs⟩) | (go_at_call 28; refine (next11_st HX0.out (by (apply sk_from (hs := hs); repeat constructor))).mono ?_; clear hs; rintro e w ⟨rfl, hs⟩) | ((with_reducible refine isl ?_); first | ((with_reducible apply ldsc (cs := opL ⟨kind, at2, n, cc, r, wide, ⟨fg, bg, fl⟩⟩)); exact rfl; exact rfl; exact rfl; exact HCC.out _ (hs.dropN 4); exact row43) | ((with_reducible refine wrap hs ?_); clear hs; generalize wr.heap.size = z9; intro w hs) | ((with_reducible apply stswx); exact rfl; exact rfl; exact rfl; (exact hs.b0); exact rfl; exact row43; exact rfl; exact rfl; exact rfl; clear hs; intro w hs)))
    refine (Classical.em (kind = 6)).elim (fun k6 => ?ga) (fun k6 => ?gb)
    case' ga =>
      obtain ⟨h12, h20⟩ := HT7.out k6
      have HA : Hid (aRes M X nx SL n cc at2 = act M ⟨kind, at2, n, cc, r, wide, ⟨fg, bg, fl⟩⟩ X nx SL) := Lib.hid (act_6 (o := ⟨kind, at2, n, cc, r, wide, ⟨fg, bg, fl⟩⟩) k6).symm
      subst k6
      refine (Classical.em ((1 ≤ n ∧ n ≤ 512) ∧ (1 ≤ cc ∧ cc ≤ 512) ∧ 0 ≤ at2 ∧ at2 < (X.L.length : Int))).elim (fun hv => ?gaa) (fun hv => ?gab)
      case' gaa =>
        obtain ⟨NN, rfl⟩ : ∃ NN : Nat, n = (NN : Int) := ⟨n.toNat, by omega⟩
        obtain ⟨KK, rfl⟩ : ∃ KK : Nat, cc = (KK : Int) := ⟨cc.toNat, by omega⟩
        have HR : Hid ((aRes M X nx SL (NN : Int) (KK : Int) at2).e = 0 ∧ (aRes M X nx SL (NN : Int) (KK : Int) at2).x.L.length = NN ∧ (aRes M X nx SL (NN : Int) (KK : Int) at2).x.cols = KK) := Lib.hid (by
          obtain ⟨_, _, q3⟩ := HI.out.1.res (rows := NN) (c2 := KK) (y := at2.toNat) (k := rk (NN : Int) at2) (n1 := rn X.L.length (NN : Int) at2) (m := NN - rn X.L.length (NN : Int) at2) (keeps := X.keeps) (push := X.keeps) (by omega) (by omega) (by omega) (by omega) (by omega) rfl rfl rfl
          unfold aRes
          rw [if_pos hv]
          exact ⟨rfl, q3, Int.toNat_natCast _⟩)
        obtain ⟨e9, he9⟩ : ∃ e9, (aRes M X nx SL (NN : Int) (KK : Int) at2).e = e9 := ⟨_, rfl⟩
        obtain ⟨r9, hr9⟩ : ∃ r9, (aRes M X nx SL (NN : Int) (KK : Int) at2).r = r9 := ⟨_, rfl⟩
        have HE9 : Hid ((aRes M X nx SL (NN : Int) (KK : Int) at2).e = 0) := Lib.hid HR.out.1
        have HR9 := Lib.hid hr9
        clear hv h12 h20 he9 hr9
        go_upto_region 15 with (first | (go_at_call 19; refine (pRes (rows := (NN : Int)) (cols2 := (KK : Int)) (y := at2) HI.out.1 HNB.out.1 HM.out.1 (by (apply sk_from (hs := hs); repeat constructor))).mono ?_; clear hs; rintro e w ⟨rfl, hs⟩; rw [HE9.out, HR9.out]) | ((with_reducible refine isl ?_); first | ((with_reducible apply ldx); exact rfl; exact rfl; exact rfl; (exact hs.b3); exact rfl; kernel_rfl)))
        ((try simp only [Act.put, List.setIfInBounds_toArray, List.set_cons_succ, List.set_cons_zero]); refine region_sat hs (by kernel_rfl) (by kernel_rfl) ?_; intro X f hne hf hcl; (repeat ((first | ((with_reducible apply ldqx); exact rfl; exact rfl; exact rfl; (exact fun x => (hf x).b3); exact rfl; kernel_rfl) | go_big_quiet_step (fail)); (try simp only [Act.put, List.setIfInBounds_toArray, List.set_cons_succ, List.set_cons_zero]))); refine wpQuiet_nil ?_; clear hcl hf hne hs f X; intro w hs)
        go_upto_region 18 with (fail)
        have HG : Hid (Inv M (act M ⟨6, at2, (NN : Int), (KK : Int), r, wide, ⟨fg, bg, fl⟩⟩ X nx SL).x (act M ⟨6, at2, (NN : Int), (KK : Int), r, wide, ⟨fg, bg, fl⟩⟩ X nx SL).nx (act M ⟨6, at2, (NN : Int), (KK : Int), r, wide, ⟨fg, bg, fl⟩⟩ X nx SL).sl) := Lib.hid HIA.out.1
        have hs1 : ∃ (X1 Y1 : Sc) (nx1 ny1 : Int) (SL1 SY1 : List LN), Hid (Inv M X1 nx1 SL1 ∧ Ord X.L X1.L nx ∧ nx1 ≤ nx + 12) ∧ Hid (Inv 0 Y1 ny1 SY1 ∧ ny1 ≤ ny + 12) ∧ Hid (X1.L.length = NN ∧ X1.cols = KK) ∧ sat W (own 3 1 (.slice aw N0 cw) N0 ((idv L).map (Value.int .i64)) :: scP b s X1 :: stP s M nx1 SL1 :: dcP d v Y1 :: dsP v ny1 0 SY1 :: H) w := by
          rw [HA.out] at hs HR
          exact ⟨_, _, _, _, _, _, Lib.hid ⟨HIA.out.1, HIA.out.2.1, HIA.out.2.2.2⟩, Lib.hid ⟨HI.out.2.1, by omega⟩, Lib.hid HR.out.2, by refine sb_from ?_ hs; repeat constructor⟩
        clear hs HE9 HR9 HR HG HA HIA HIS
      case' gab =>
        obtain ⟨NN, rfl⟩ : ∃ NN : Nat, NN = N1 := ⟨_, rfl⟩
        obtain ⟨KK, rfl⟩ : ∃ KK : Nat, KK = K1 := ⟨_, rfl⟩
        have HR : Hid (aRes M X nx SL n cc at2 = ⟨X, nx, SL, 0, 2⟩) := Lib.hid (by unfold aRes; rw [if_neg hv])
        clear hv h12 h20
        go_upto_region 18 with (first | (go_at_call 19; refine (pRes (rows := n) (cols2 := cc) (y := at2) HI.out.1 HNB.out.1 HM.out.1 (by (apply sk_from (hs := hs); repeat constructor))).mono ?_; clear hs; rintro e w ⟨rfl, hs⟩; rw [HR.out] at hs ⊢; dsimp only at hs ⊢) | ((with_reducible refine isl ?_); first | ((with_reducible apply ldx); exact rfl; exact rfl; exact rfl; (exact hs.b3); exact rfl; kernel_rfl)))
        have hs1 : ∃ (X1 Y1 : Sc) (nx1 ny1 : Int) (SL1 SY1 : List LN), Hid (Inv M X1 nx1 SL1 ∧ Ord X.L X1.L nx ∧ nx1 ≤ nx + 12) ∧ Hid (Inv 0 Y1 ny1 SY1 ∧ ny1 ≤ ny + 12) ∧ Hid (X1.L.length = NN ∧ X1.cols = KK) ∧ sat W (own 3 1 (.slice aw N0 cw) N0 ((idv L).map (Value.int .i64)) :: scP b s X1 :: stP s M nx1 SL1 :: dcP d v Y1 :: dsP v ny1 0 SY1 :: H) w := ⟨_, _, _, _, _, _, Lib.hid ⟨HI.out.1, ord_same _ _, by omega⟩, Lib.hid ⟨HI.out.2.1, by omega⟩, Lib.hid HI.out.2.2, by refine sb_from ?_ hs; repeat constructor⟩
        clear hs HR HA HIA HIS
    case' gb =>
      obtain ⟨NN, rfl⟩ : ∃ NN : Nat, NN = N1 := ⟨_, rfl⟩
      obtain ⟨KK, rfl⟩ : ∃ KK : Nat, KK = K1 := ⟨_, rfl⟩
      have d6 : decide (kind = 6) = false := decide_eq_false k6
      have e6 : (kind == 6) = false := beq_eq_false_iff_ne.2 k6
      refine (Classical.em (kind = 7)).elim (fun k7 => ?gba) (fun k7 => ?gbb)
      case' gba =>
        subst k7
        clear k6
        go_upto_region 18 with (((with_reducible refine isl ?_); first | ((with_reducible apply ldx); exact rfl; exact rfl; exact rfl; (exact hs.b3); exact rfl; kernel_rfl)))
        have hs1 : ∃ (X1 Y1 : Sc) (nx1 ny1 : Int) (SL1 SY1 : List LN), Hid (Inv M X1 nx1 SL1 ∧ Ord X.L X1.L nx ∧ nx1 ≤ nx + 12) ∧ Hid (Inv 0 Y1 ny1 SY1 ∧ ny1 ≤ ny + 12) ∧ Hid (X1.L.length = NN ∧ X1.cols = KK) ∧ sat W (own 3 1 (.slice aw N0 cw) N0 ((idv L).map (Value.int .i64)) :: scP b s X1 :: stP s M nx1 SL1 :: dcP d v Y1 :: dsP v ny1 0 SY1 :: H) w := ⟨_, _, _, _, _, _, Lib.hid ⟨HI.out.1, ord_same _ _, by omega⟩, Lib.hid ⟨HI.out.2.1, by omega⟩, Lib.hid HI.out.2.2, by refine sb_from ?_ hs; repeat constructor⟩
        clear hs HIA HIS
      case' gbb =>
        have d7 : decide (kind = 7) = false := decide_eq_false k7
        have e7 : (kind == 7) = false := beq_eq_false_iff_ne.2 k7
        have HIB := Lib.hid (HI.out.2.1.nxt (o := ⟨kind, at2, n, cc, r, wide, ⟨fg, bg, fl⟩⟩) (fun h => absurd h k6))
        have HK67 := Lib.hid (And.intro k6 k7)
        go_upto_region 18 with (first | (go_at_call 29; refine (do29_lo (o := ⟨kind, at2, n, cc, r, wide, ⟨fg, bg, fl⟩⟩) HK67.out.1 HK67.out.2 HI.out.1 HI.out.2.1 HNB.out.1 HNB.out.2 HM.out.1 (by decide) (by (apply sk_from (hs := hs); repeat constructor))).mono ?_; clear hs; rintro e w ⟨vv, rfl, _, hs⟩) | ((with_reducible refine isl ?_); first | ((with_reducible apply ldsx 9); exact rfl; exact rfl; exact rfl; (exact hs.b3); exact row43; exact rfl; exact rfl) | ((with_reducible apply ldx); exact rfl; exact rfl; exact rfl; (exact hs.b3); exact rfl; kernel_rfl)))
        have hs1 : ∃ (X1 Y1 : Sc) (nx1 ny1 : Int) (SL1 SY1 : List LN), Hid (Inv M X1 nx1 SL1 ∧ Ord X.L X1.L nx ∧ nx1 ≤ nx + 12) ∧ Hid (Inv 0 Y1 ny1 SY1 ∧ ny1 ≤ ny + 12) ∧ Hid (X1.L.length = NN ∧ X1.cols = KK) ∧ sat W (own 3 1 (.slice aw N0 cw) N0 ((idv L).map (Value.int .i64)) :: scP b s X1 :: stP s M nx1 SL1 :: dcP d v Y1 :: dsP v ny1 0 SY1 :: H) w := ⟨_, _, _, _, _, _, Lib.hid ⟨HIA.out.1, HIA.out.2.1, HIA.out.2.2.2⟩, Lib.hid ⟨HIB.out.1, HIB.out.2.2.2⟩, Lib.hid (by have h1 := HIS.out.1 k6; have h2 := HI.out.2.2; exact ⟨h1.1.trans h2.1, h1.2.trans h2.2⟩), by refine sb_from ?_ hs; repeat constructor⟩
        clear hs HIA HIS HIB k6 k7 d7 e7
    all_goals
      obtain ⟨X1, Y1, nx1, ny1, SL1, SY1, HI1, HJ1, HZ1, hs⟩ := hs1
      rw [HXL.out] at HI1
      have HN5 : Hid (NN ≤ 512 ∧ KK ≤ 512) := Lib.hid (by have h1 := HI1.out.1.n5; have h2 := HI1.out.1.c5; have h3 := HZ1.out; omega)
      have nn0 : 0 < NN := by have h1 := HI1.out.1.n0; have h3 := HZ1.out; omega
      have kk0 : 0 < KK := by have h1 := HI1.out.1.c0; have h3 := HZ1.out; omega
      have HNX1 := Lib.hid HI1.out.1.nx0
      go_upto_region 19 with ((go_at_call 11; refine (ids_k (l := idv X1.L) (Lib.hid rfl) HZ1.out.1 nn0 HN5.out.1 (by (apply sk_from (hs := hs); repeat constructor))).mono ?_; clear hs; rintro e w ⟨an, cn, rfl, hs⟩))
      obtain ⟨keeps1, cc1, top1, bot1, L1⟩ := X1
      dsimp only at HI1 HZ1 hs
      obtain rfl : cc1 = KK := HZ1.out.2
      obtain ⟨ps, g, p, HO, hs1⟩ := sc_open' HZ1.out.1 nn0 (by refine sb_from ?_ hs; repeat constructor : sat W (scP b s ⟨keeps1, cc1, top1, bot1, L1⟩ :: own 3 1 (.slice aw N0 cw) N0 ((idv L).map (Value.int .i64)) :: own 3 1 (.slice an NN cn) NN ((idv L1).map (Value.int .i64)) :: stP s M nx1 SL1 :: dcP d v Y1 :: dsP v ny1 0 SY1 :: H) w)
      clear hs
      have hs : sat W (own 3 1 (.slice aw N0 cw) N0 ((idv L).map (Value.int .i64)) :: own 3 1 (.slice an NN cn) NN ((idv L1).map (Value.int .i64)) :: cel b 46 [.pointer (some ⟨s, 0, none⟩), .bool keeps1, .int .i64 (cc1 : Int), .slice (some ⟨g, 0, none⟩) NN p, .int .i64 top1, .int .i64 bot1] :: own 81 2 (.slice (some ⟨g, 0, none⟩) NN p) NN (lvs ps).flatten :: lrw 96 ps :: stP s M nx1 SL1 :: dcP d v Y1 :: dsP v ny1 0 SY1 :: H) w := by refine sb_from ?_ hs1; repeat constructor
      clear hs1
      obtain ⟨gw, rfl⟩ := own_ptr HN0.out.2.1 hs
      obtain ⟨gn, rfl⟩ := own_ptr nn0 hs.b1
      have hN512 : (NN : Int) ≤ 512 := by have := HN5.out.1; omega
      have hN0512 : (N0 : Int) ≤ 512 := by have := HN0.out.2.2; omega
      go_wp2_with ((go_at_call 21; refine (scols21 nn0 (by (apply sk_from (hs := hs); repeat constructor))).mono ?_; clear hs; rintro e w ⟨rfl, hs⟩))
      go_loopw [98, 22] (fun i at9 wx => ∃ i1 : Nat, i1 ≤ NN ∧ i = .int .i64 (i1 : Int) ∧ at9 = .int .i64 (la L L1 i1) ∧ sat W (own 3 1 (.slice (some ⟨gw, 0, none⟩) N0 cw) N0 ((idv L).map (Value.int .i64)) :: own 3 1 (.slice (some ⟨gn, 0, none⟩) NN cn) NN ((idv L1).map (Value.int .i64)) :: cel b 46 [.pointer (some ⟨s, 0, none⟩), .bool keeps1, .int .i64 (cc1 : Int), .slice (some ⟨g, 0, none⟩) NN p, .int .i64 top1, .int .i64 bot1] :: own 81 2 (.slice (some ⟨g, 0, none⟩) NN p) NN (lvs ps).flatten :: lrw 96 ps :: stP s M nx1 SL1 :: dcP d v Y1 :: dsP v ny1 0 SY1 :: H) wx) (fun i _ _ => ((NN : Int) - intOf i).toNat)
      case atStart => exact ⟨0, Nat.zero_le _, rfl, by unfold la; rfl, by refine sb_from ?_ hs; repeat constructor⟩
      case round =>
        clear hs
        obtain ⟨i1, hi1, rfl, rfl, hs⟩ := hrel
        by_cases hin1 : i1 < NN
        · have hin3 : (i1 : Int) < (NN : Int) := by omega
          obtain ⟨⟨xid, xb, xl⟩, hp⟩ : ∃ x, ps[i1]? = some x := ⟨_, List.getElem?_eq_getElem (by rw [HO.out.2]; exact hin1)⟩
          have hx2 : L1[i1]? = some (xid, xl) := by rw [← HO.out.1, List.getElem?_map, hp]; rfl
          have hok := HI1.out.1.ok _ (List.mem_of_getElem? hx2)
          have hid := HI1.out.1.idk _ (List.mem_of_getElem? hx2)
          have hdis := HI1.out.1.dis _ (List.mem_of_getElem? hx2)
          have hfi := ffst_is HI1.out.1.ndk hx2
          have hpm := ord_mem HI1.out.2.1 HL0.out.2.2.1 hx2
          have hpa := ord_at HI1.out.2.1 HL0.out.2.2.1 HL0.out.2.1 hx2
          have hpe := pk_end hx2 HL0.out.2.2.1 HL0.out.1
          dsimp only at hok hid hdis hfi hpm hpa hpe
          obtain ⟨A0, hA0⟩ : ∃ A0, la L L1 i1 = A0 := ⟨_, rfl⟩
          rw [hA0] at hpa hpe
          rw [hA0]
          have HX := Lib.hid hp
          have HLL := Lib.hid hok.1
          have HFI := Lib.hid hfi
          have HFN := Lib.hid (fnd_no (SL := SL1) (id := xid) hdis)
          have HPM := Lib.hid hpm
          have HPA := Lib.hid hpa
          have HPE := Lib.hid hpe
          have HXI : Hid (((idv L1).map (Value.int .i64))[i1]? = some (.int .i64 xid)) := Lib.hid (by rw [List.getElem?_map, idv_at hx2]; rfl)
          have k1 : decide (nx1 ≤ xid) = false := decide_eq_false (by omega)
          have HI1N := Lib.hid hin1
          clear hp hx2 hok hid hdis hfi hpm hpa hpe hA0
          go_wp2_with (first | (go_at_call 24; refine (sfind24 nn0 HN5.out.1 HO (by (apply sk_from (hs := hs); repeat constructor))).mono ?_; clear hs; rintro e w ⟨rfl, hs⟩; rw [HFI.out]) | (go_at_call 23; refine (srow23 HX.out HI1N.out (by (apply sk_from (hs := hs); repeat constructor))).mono ?_; clear hs; rintro e w ⟨rfl, hs⟩) | (go_at_call 30; refine (len30_at HX.out HLL.out kk0 (by (apply sk_from (hs := hs); repeat constructor))).mono ?_; clear hs; rintro e w ⟨rfl, hs⟩) | (go_at_call 28; refine (next11_st HNX1.out (by (apply sk_from (hs := hs); repeat constructor))).mono ?_; clear hs; rintro e w ⟨rfl, hs⟩) | (go_at_call 31; refine (find13 HM.out.1 HNX1.out (by (apply sk_from (hs := hs); repeat constructor))).mono ?_; clear hs; rintro e w ⟨rfl, hs⟩; rw [HFN.out]) | ((with_reducible refine isl ?_); first | ((with_reducible apply ldo hs.b1); exact rfl; exact rfl; exact rfl; exact HXI.out; exact one3)))
          go_loopw [130, 22] (fun k at9 wx => ∃ k0 : Nat, k0 ≤ N0 ∧ k = .int .i64 (k0 : Int) ∧ at9 = .int .i64 (pk L xid A0 k0) ∧ sat W (own 3 1 (.slice (some ⟨gw, 0, none⟩) N0 cw) N0 ((idv L).map (Value.int .i64)) :: own 3 1 (.slice (some ⟨gn, 0, none⟩) NN cn) NN ((idv L1).map (Value.int .i64)) :: cel b 46 [.pointer (some ⟨s, 0, none⟩), .bool keeps1, .int .i64 (cc1 : Int), .slice (some ⟨g, 0, none⟩) NN p, .int .i64 top1, .int .i64 bot1] :: own 81 2 (.slice (some ⟨g, 0, none⟩) NN p) NN (lvs ps).flatten :: lrw 96 ps :: stP s M nx1 SL1 :: dcP d v Y1 :: dsP v ny1 0 SY1 :: H) wx) (fun k _ _ => ((N0 : Int) - intOf k).toNat)
          case atStart => exact ⟨0, Nat.zero_le _, rfl, by rw [pk_zero], by refine sb_from ?_ hs; repeat constructor⟩
          case round =>
            clear hs
            obtain ⟨k0, hk0, rfl, rfl, hs⟩ := hrel
            obtain ⟨B0, hB0⟩ : ∃ B0, pk L xid A0 k0 = B0 := ⟨_, rfl⟩
            rw [hB0]
            have HB0 := Lib.hid hB0
            clear hB0
            by_cases hkn : k0 < N0
            · have hkn2 : (k0 : Int) < (N0 : Int) := by omega
              obtain ⟨⟨zid, zl⟩, hz⟩ : ∃ x, L[k0]? = some x := ⟨_, List.getElem?_eq_getElem (by rw [HL0.out.1]; exact hkn)⟩
              have HZI : Hid (((idv L).map (Value.int .i64))[k0]? = some (.int .i64 zid)) := Lib.hid (by rw [List.getElem?_map, idv_at hz]; rfl)
              have hfz := ffst_is HL0.out.2.2.1 hz
              dsimp only at hfz
              by_cases hq : zid = xid
              · subst hq
                have HPK := Lib.hid (pk_hit (a0 := A0) hfz)
                have q1 : decide ((k0 : Int) < B0) = false := decide_eq_false (by have h1 := HPA.out (by rw [hfz]; omega); have h2 := HPK.out.2; rw [HB0.out] at h2; rw [hfz] at h1; omega)
                clear hfz hz
                go_wp2_with (((with_reducible refine isl ?_); first | ((with_reducible apply ldo hs.b0); exact rfl; exact rfl; exact rfl; exact HZI.out; exact one3)))
                go_roundw
                case rel => exact ⟨k0 + 1, by omega, by go_num, by rw [HPK.out.1], by refine sb_from ?_ hs; repeat constructor⟩
                case measure => simp [intOf]; omega
              · have hq2 : (zid == xid) = false := beq_eq_false_iff_ne.2 hq
                have HPK : Hid (pk L xid A0 (k0 + 1) = B0) := Lib.hid (by
                  rw [← HB0.out]
                  refine pk_miss fun e => hq ?_
                  obtain ⟨k9, y9, e1, e2, e3⟩ := ffst_of HL0.out.2.2.1 (ffst_mem (by rw [e]; omega : 0 ≤ ffst L xid))
                  have e4 : k9 = k0 := by omega
                  subst e4
                  rw [hz] at e1
                  have e5 := Option.some.inj e1
                  rw [← e5] at e2
                  exact e2)
                clear hfz hz
                go_wp2_with (((with_reducible refine isl ?_); first | ((with_reducible apply ldo hs.b0); exact rfl; exact rfl; exact rfl; exact HZI.out; exact one3)))
                go_roundw
                case rel => exact ⟨k0 + 1, by omega, by go_num, by rw [HPK.out], by refine sb_from ?_ hs; repeat constructor⟩
                case measure => simp [intOf]; omega
            · have hge : ¬ (k0 : Int) < (N0 : Int) := by omega
              obtain rfl : k0 = N0 := by omega
              have HB1 : Hid (B0 = la L L1 (i1 + 1)) := Lib.hid (by rw [← HB0.out]; exact HPE.out)
              clear hkn
              by_cases hxn : xid < nx
              · have q1 : decide (xid < nx) = true := decide_eq_true hxn
                have q2 : decide (ffst L xid < 0) = false := decide_eq_false (by have := HPM.out hxn; omega)
                go_wp2_with ((go_at_call 32; refine (place32 (by omega) (SK.of_own hs) hs).mono ?_; clear hs; rintro e w ⟨rfl, hs⟩))
                go_roundw
                case rel => exact ⟨i1 + 1, by omega, by go_num, by rw [HB1.out], by refine sb_from ?_ hs; repeat constructor⟩
                case measure => simp [intOf]; omega
              · have q1 : decide (xid < nx) = false := decide_eq_false hxn
                go_wp2_with (fail)
                go_roundw
                case rel => exact ⟨i1 + 1, by omega, by go_num, by rw [HB1.out], by refine sb_from ?_ hs; repeat constructor⟩
                case measure => simp [intOf]; omega
        · have hge : ¬ (i1 : Int) < (NN : Int) := by omega
          clear hin1
          go_wp2_with (fail)
          go_roundw
          case rel =>
            have h1 := sc_close HO (by refine sb_from ?_ hs; repeat constructor : sat W (cel b 46 [.pointer (some ⟨s, 0, none⟩), .bool keeps1, .int .i64 (cc1 : Int), .slice (some ⟨g, 0, none⟩) NN p, .int .i64 top1, .int .i64 bot1] :: own 81 2 (.slice (some ⟨g, 0, none⟩) NN p) NN (lvs ps).flatten :: lrw 96 ps :: stP s M nx1 SL1 :: dcP d v Y1 :: dsP v ny1 0 SY1 :: H) _)
            exact ⟨i0 + 1, NN, cc1, _, Y1, nx1, ny1, SL1, SY1, by omega, by go_num, rfl, rfl, Lib.hid ⟨HI1.out.1, HJ1.out.1, HZ1.out.1, rfl⟩, Lib.hid (by have h2 := HX.out; have h3 := HI1.out.2.2; have h4 := HJ1.out.2; push_cast; omega), h1⟩
          case measure => simp [intOf]; omega
end Go.Proofs.Ytdcagaaanbgcoaa
