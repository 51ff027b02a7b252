/- Law 9: Resize. -/
import Derived.Test.YtdcagaaanbgcoaaSf
import Derived.Test.YtdcagaaanbgcoaaS8
namespace Go.Proofs.Ytdcagaaanbgcoaa
open Go.RowKit Go.Mem Go.Cells Go.Lines
variable {W w : World} {H : List HProp}
attribute [local irreducible] rowTy oneTy World.setCell World.setCells World.alloc World.drew World.drewN Calls sat cel own blk old wpQuiet wpList cmb cmb1 rwP cls rws wi wh fst_ World.rangeAt lrw lnP stP lsP dsP lvs frL downL upL pushs
set_option maxRecDepth 20000 in
theorem sresize19_true {b s N cols most rows c2 y k n1 m : Nat} {top bot nx : Int} {L SL : List LN} (hn : L.length = N) (hN : N ≤ 512) (ok : LOK L) (idk : IDK nx L) (r0 : 1 ≤ rows) (r1 : rows ≤ 512) (c0 : 1 ≤ c2) (c1 : c2 ≤ 512) (hy : y < N) (hk : k = y + 1 - rows) (h1 : n1 = min rows (N - k)) (hm : m = rows - n1) (hnx : 0 < nx) (hnb : nx + 512 ≤ 1000000) (hmo : most ≤ 10000)
    (hs : sat W (scP b s ⟨true, cols, top, bot, L⟩ :: stP s most nx SL :: H) w) :
    Calls Try.prog 19 #[.pointer (some ⟨b, 0, none⟩), .int .i64 (rows : Int), .int .i64 (c2 : Int), .int .i64 (y : Int)] w fun e w' => e = .returned (.tuple #[.int .i64 ((y - k : Nat) : Int), .int .i64 0]) ∧ sat W (scP b s ⟨true, c2, 0, (rows : Int) - 1, ((L.drop k).take n1).map (rszL c2) ++ frL m nx (frC c2 At.z)⟩ :: stP s most (nx + m) (pushs most SL (L.take k)) :: H) w' := by
  have h0 : 0 < N := by omega
  obtain ⟨ps, g, p, HO, hs⟩ := sc_open' hn h0 hs
  obtain ⟨hnp, hpm⟩ := hs.b1.own_len
  have hp63 : (p : Int) ≤ 9223372036854775807 := by unfold maxLen at hpm; omega
  have HR := Lib.hid (show decide (1 ≤ (rows : Int) ∧ (rows : Int) ≤ 512) = true from decide_eq_true (by omega))
  have HC := Lib.hid (show decide (1 ≤ (c2 : Int) ∧ (c2 : Int) ≤ 512) = true from decide_eq_true (by omega))
  have g1 : decide ((y : Int) < 0) = false := decide_eq_false (by omega)
  have g2 : decide ((N : Int) ≤ (y : Int)) = false := decide_eq_false (by omega)
  have HE : Hid ((if (y : Int) - (rows : Int) + 1 < 0 then (0 : Int) else (y : Int) - (rows : Int) + 1) = (k : Int)) := Lib.hid (by split <;> omega)
  have hkN : k < N := by omega
  have hpk : ¬ p = k := by omega
  have hky : k ≤ y := by omega
  have HK := Lib.hid (And.intro ok idk)
  have HB := Lib.hid (And.intro hN (And.intro r1 (And.intro c1 (And.intro hnb (And.intro hmo (And.intro hk (And.intro h1 hm)))))))
  clear hn ok idk hpm hk h1 hm
  go_enter Try.func19, Try.ntmps19
  go_upto_region 6 with (first | (go_at_call 37; refine (sready37 h0 (by (apply sk_from (hs := hs); repeat constructor))).mono ?_; clear hs; rintro e w ⟨rfl, hs⟩) | (go_at_call 44; refine (may44 (x := (rows : Int)) hs).mono ?_; clear hs; rintro e w ⟨rfl, hs⟩; rw [HR.out]) | (go_at_call 44; refine (may44 (x := (c2 : Int)) hs).mono ?_; clear hs; rintro e w ⟨rfl, hs⟩; rw [HC.out]) | ((with_reducible refine isl ?_); first | ((with_reducible apply ldx); exact rfl; exact rfl; exact rfl; (exact hs.b0); exact rfl; kernel_rfl)))
  rw [HE.out]
  generalize (y : Int) - (rows : Int) + 1 = q0
  go_upto_region 8 with (first | (go_at_call 39; refine (spush39 (f := 0) (n := k) (L := L) HO (by omega) HB.out.1 HK.out.1 HK.out.2 HB.out.2.2.2.2.1 (by (apply sk_from (hs := hs); repeat constructor))).mono ?_; clear hs; rintro e w ⟨rfl, hs⟩) | ((with_reducible refine isl ?_); first | ((with_reducible apply ldx); exact rfl; exact rfl; exact rfl; (exact hs.b0); exact rfl; kernel_rfl)))
  go_upto_region 9 with (first | (go_at_call 46; refine (sclone46 hkN HO.out.2 HB.out.1 (by (apply sk_from (hs := hs); repeat constructor))).mono ?_; clear hs; rintro e w ⟨g2, cc, rfl, hs⟩) | ((with_reducible refine isl ?_); first | ((with_reducible apply ldx); exact rfl; exact rfl; exact rfl; (exact hs.b0); exact rfl; kernel_rfl) | ((with_reducible apply stx); exact rfl; exact rfl; exact rfl; (exact hs.b2); exact rfl; exact rfl; exact rfl; kernel_rfl; exact rfl; clear hs; intro w hs)))
  have hcc := hs.b1.own_len
  ((try simp only [Act.put, List.setIfInBounds_toArray, List.set_cons_succ, List.set_cons_zero]); refine region_tail 15 hs (by kernel_rfl) (by kernel_rfl) ?_; simp only [List.take_succ_cons, List.take_zero, List.drop_succ_cons, List.drop_zero]; clear hs; intro w hs; (repeat ((first | ((with_reducible apply ldt hs.b0); exact rfl; exact rfl; exact rfl; exact rfl; kernel_rfl) | go_big_quiet_step (fail)); (try simp only [Act.put, List.setIfInBounds_toArray, List.set_cons_succ, List.set_cons_zero]))); refine wpQuiet_nil ?_)
  have HE2 : Hid ((if N - k < rows then ((N - k : Nat) : Int) else (rows : Int)).toNat = n1) := Lib.hid (by have := HB.out.2.2.2.2.2.2.1; split <;> omega)
  have hn1 : n1 ≤ N - k := by have := HB.out.2.2.2.2.2.2.1; omega
  have hn1p : 0 < n1 := by have := HB.out.2.2.2.2.2.2.1; omega
  have hn1s : n1 ≤ 512 := by have := HB.out.1; omega
  go_upto_region 10 with (((with_reducible refine isl ?_); first | ((with_reducible apply stx); exact rfl; exact rfl; exact rfl; (exact hs.b0); exact rfl; exact rfl; exact rfl; kernel_rfl; exact rfl; clear hs; intro w hs)))
  rw [HE2.out] at hs ⊢
  generalize (if N - k < rows then ((N - k : Nat) : Int) else (rows : Int)) = q1
  have hs1 := hs.b1.own_take (q := n1) (by omega) hn1
  rw [flat_take _ _ (lvs2 _), lvs_take] at hs1
  have hs2 := lrw_take n1 (lrw_drop k (by refine sb_from ?_ hs1; repeat constructor : sat W (lrw 96 ps :: own 81 2 (.slice (some ⟨g2, 0, none⟩) n1 cc) n1 (lvs ((ps.drop k).take n1)).flatten :: cel b 46 [.pointer (some ⟨s, 0, none⟩), .bool true, .int .i64 cols, .slice (some ⟨g2, 0, none⟩) n1 cc, .int .i64 top, .int .i64 bot] :: stP s most nx (pushs most SL (L.take k)) :: H) w))
  clear hs hs1
  have HO1 : Hid (((ps.drop k).take n1).map PL.ln = (L.drop k).take n1 ∧ ((ps.drop k).take n1).length = n1) := Lib.hid ⟨by rw [List.map_take, List.map_drop, HO.out.1], by rw [List.length_take, List.length_drop, HO.out.2]; omega⟩
  have HOK : Hid (LOK ((L.drop k).take n1)) := Lib.hid fun x hx => HK.out.1 x (List.mem_of_mem_drop (List.mem_of_mem_take hx))
  generalize (ps.drop k).take n1 = p1 at hs2 HO1
  have hs : sat W (own 81 2 (.slice (some ⟨g2, 0, none⟩) n1 cc) n1 (lvs p1).flatten :: lrw 96 p1 :: cel b 46 [.pointer (some ⟨s, 0, none⟩), .bool true, .int .i64 cols, .slice (some ⟨g2, 0, none⟩) n1 cc, .int .i64 top, .int .i64 bot] :: stP s most nx (pushs most SL (L.take k)) :: H) w := by refine sb_from ?_ hs2; repeat constructor
  clear hs2
  go_wp2_with (((with_reducible refine isl ?_); first | ((with_reducible apply ldx); exact rfl; exact rfl; exact rfl; (exact hs.b0); exact rfl; kernel_rfl) | ((with_reducible apply stx); exact rfl; exact rfl; exact rfl; (exact hs.b2); exact rfl; exact rfl; exact rfl; kernel_rfl; exact rfl; clear hs; intro w hs)))
  go_loopw [90] (fun i wx => ∃ i0 : Nat, i0 ≤ n1 ∧ i = .int .i64 (i0 : Int) ∧ sat W (own 81 2 (.slice (some ⟨g2, 0, none⟩) n1 cc) n1 (lvs p1).flatten :: lrw 96 ((p1.take i0).map (rsz c2) ++ p1.drop i0) :: cel b 46 [.pointer (some ⟨s, 0, none⟩), .bool true, .int .i64 c2, .slice (some ⟨g2, 0, none⟩) n1 cc, .int .i64 top, .int .i64 bot] :: stP s most nx (pushs most SL (L.take k)) :: H) wx) (fun i _ => ((n1 : Int) - intOf i).toNat)
  case atStart => exact ⟨0, Nat.zero_le _, rfl, by refine sb_from ?_ hs; repeat constructor⟩
  case round =>
    clear hs
    obtain ⟨i0, hi, rfl, hs⟩ := hrel
    by_cases hin : i0 < n1
    · have hin2 : (i0 : Int) < (n1 : Int) := by omega
      obtain ⟨⟨xid, xb, xl⟩, hx⟩ : ∃ x, p1[i0]? = some x := ⟨_, List.getElem?_eq_getElem (by rw [HO1.out.2]; exact hin)⟩
      have hx2 : ((L.drop k).take n1)[i0]? = some (xid, xl) := by rw [← HO1.out.1, List.getElem?_map, hx]; rfl
      obtain ⟨m0, m1, m2⟩ := HOK.out _ (List.mem_of_getElem? hx2)
      simp only at m0 m1 m2
      obtain ⟨mm, hmm⟩ : ∃ mm, xl.length = mm := ⟨_, rfl⟩
      rw [hmm] at m0 m1
      have HLL := Lib.hid hmm
      have HX := Lib.hid (lvs_get hx)
      have HXX := Lib.hid hx
      have hs1 := lrw_at (rsz_at (m := c2) hx) hs.b1
      clear hx hx2 hmm hs m2
      have hs : sat W (own 81 2 (.slice (some ⟨g2, 0, none⟩) n1 cc) n1 (lvs p1).flatten :: cel b 46 [.pointer (some ⟨s, 0, none⟩), .bool true, .int .i64 c2, .slice (some ⟨g2, 0, none⟩) n1 cc, .int .i64 top, .int .i64 bot] :: rwP 96 xb xl :: lrw 96 (((p1.take i0).map (rsz c2) ++ p1.drop i0).take i0) :: lrw 96 (((p1.take i0).map (rsz c2) ++ p1.drop i0).drop (i0 + 1)) :: stP s most nx (pushs most SL (L.take k)) :: H) wr := by refine sb_from ?_ hs1; repeat constructor
      clear hs1
      go_wp2_with (first | (go_at_call 47; refine (resize26_ok HLL.out m0 m1 c0 HB.out.2.2.1 (by (apply sk_from (hs := hs); repeat constructor))).mono ?_; clear hs; rintro e w ⟨rfl, hs⟩) | ((with_reducible refine isl ?_); first | ((with_reducible apply ldor hs.b0); exact rfl; exact rfl; exact rfl; exact HX.out; exact lvs2 _; exact row81) | ((with_reducible refine wrap hs ?_); clear hs; generalize wr.heap.size = z9; intro w hs) | ((with_reducible apply stswx); exact rfl; exact rfl; exact rfl; (exact hs.b0); exact rfl; exact row81; exact rfl; exact rfl; exact rfl; clear hs; intro w hs) | ((with_reducible apply ldx); exact rfl; exact rfl; exact rfl; (exact hs.b0); exact rfl; kernel_rfl)))
      go_roundw
      case rel =>
        refine ⟨i0 + 1, by omega, by go_num, ?_⟩
        have h4 := lrw_put (l := (p1.take i0).map (rsz c2) ++ p1.drop i0) (i := i0) (y := rsz c2 ⟨xid, xb, xl⟩) (List.getElem?_eq_some_iff.1 (rsz_at (m := c2) HXX.out)).1 (by refine sb_from ?_ hs; repeat constructor : sat W (rwP 96 xb (resG xl c2) :: lrw 96 (((p1.take i0).map (rsz c2) ++ p1.drop i0).take i0) :: lrw 96 (((p1.take i0).map (rsz c2) ++ p1.drop i0).drop (i0 + 1)) :: own 81 2 (.slice (some ⟨g2, 0, none⟩) n1 cc) n1 (lvs p1).flatten :: cel b 46 [.pointer (some ⟨s, 0, none⟩), .bool true, .int .i64 c2, .slice (some ⟨g2, 0, none⟩) n1 cc, .int .i64 top, .int .i64 bot] :: stP s most nx (pushs most SL (L.take k)) :: H) w)
        rw [rsz_set HXX.out] at h4
        refine sb_from ?_ h4; repeat constructor
      case measure => simp [intOf]; omega
    · obtain rfl : i0 = n1 := by omega
      have HP2 : Hid ((p1.take i0).map (rsz c2) ++ p1.drop i0 = p1.map (rsz c2)) := Lib.hid (by rw [List.take_of_length_le (by rw [HO1.out.2]; exact Nat.le_refl _), List.drop_of_length_le (by rw [HO1.out.2]; exact Nat.le_refl _), List.append_nil])
      rw [HP2.out] at hs
      have hm5 : m ≤ 512 := by have := HB.out; omega
      have e7 : (rows : Int) - (i0 : Int) = ((m : Nat) : Int) := by have := HB.out; omega
      have HM5 := Lib.hid hm5
      have HLV : Hid (lvs (p1.map (rsz c2)) = lvs p1) := Lib.hid (by have h := lvs_rsz c2 i0 p1; rw [HP2.out] at h; exact h)
      clear hin hm5
      go_upto_region 16 with (fail)
      refine L_begin 18 18 [cel b 46 [.pointer (some ⟨s, 0, none⟩), .bool true, .int .i64 c2, .slice (some ⟨g2, 0, none⟩) i0 cc, .int .i64 top, .int .i64 bot]] [cel b 46 [.pointer (some ⟨s, 0, none⟩), .bool true, .int .i64 c2, .slice (some ⟨g2, 0, none⟩) i0 cc, .int .i64 top, .int .i64 bot]] hs (fun _ h => by (refine sb_from ?_ h; repeat constructor)) (fun _ h => by (refine sb_from ?_ h; repeat constructor)) (by kernel_rfl) ?_; clear hs; intro w hs hd
      refine L_reads2 [0, 1, 2, 3, 4, 5, 6, 7, 8, 9, 10, 11, 12, 13] #[true, true, true, true, true, true, true, true, true, true, true, true, true, true, false, false, false, false, false] (fuel := 5) hd (by kernel_rfl) (fun _ _ _ _ _ h => h) ?_; clear hd; intro X f hne hf hcl hd; simp only [nths, nth, List.append_nil, List.nil_append, List.cons_append]; (try simp only [Act.put, List.setIfInBounds_toArray, List.set_cons_succ, List.set_cons_zero]); (repeat ((first | ((with_reducible apply ldqx); exact rfl; exact rfl; exact rfl; (exact fun x => (hf x).b0); exact rfl; kernel_rfl) | go_big_quiet_step (fail)); (try simp only [Act.put, List.setIfInBounds_toArray, List.set_cons_succ, List.set_cons_zero]))); refine wpQuiet_nil ?_; clear hcl hf hne f X
      refine L_each [14] (by kernel_rfl) ⟨?_, trivial⟩
      simp only [nth]
      go_wp2_with (go_at_call 45; refine (fresh45 (n := m) (nx := nx) (cols := c2) (s := s) (most := most) (SL := (pushs most SL (L.take k))) (at_ := At.z) HM5.out c0 HB.out.2.2.1 hnx (by have h1 := HB.out; have h2 := HM5.out; omega) (by (apply sk_from (hs := hs); repeat constructor))).mono ?_; clear hs; rintro e w ⟨g3, rfl, hs⟩; obtain ⟨pf, hpf1, hpf2, hs⟩ := ln_open (frL_len _ _ _) hs; have HPF := Lib.hid (And.intro hpf1 hpf2); have HLF := Lib.hid (show (lvs pf).flatten.length = m * 2 by rw [lvs_size, hpf2]); clear hpf1 hpf2; replace hs : sat W (own 81 2 (.slice (some ⟨g2, 0, none⟩) i0 cc) i0 (lvs p1).flatten :: own 81 2 (.slice (some ⟨g3, 0, none⟩) m m) m (lvs pf).flatten :: lrw 96 pf :: cel b 46 [.pointer (some ⟨s, 0, none⟩), .bool true, .int .i64 c2, .slice (some ⟨g2, 0, none⟩) i0 cc, .int .i64 top, .int .i64 bot] :: stP s most (nx + m) (pushs most SL (L.take k)) :: lrw 96 (p1.map (rsz c2)) :: H) w := by refine sb_from ?_ hs; repeat constructor)
      (refine on_now hs ?_); clear hs; intro hs
      refine L_on [cel b 46 [.pointer (some ⟨s, 0, none⟩), .bool true, .int .i64 c2, .slice (some ⟨g2, 0, none⟩) i0 cc, .int .i64 top, .int .i64 bot]] [cel b 46 [.pointer (some ⟨s, 0, none⟩), .bool true, .int .i64 c2, .slice (some ⟨g2, 0, none⟩) i0 cc, .int .i64 top, .int .i64 bot]] #[true, true, true, true, true, true, true, true, true, true, true, true, true, true, true, false, false, false, false] (fuel := 4) hs (by kernel_rfl) (fun _ h => h) (fun _ h => h) (fun _ => by (refine sb_from ?_ hs; repeat constructor)) (fun _ => by (refine sb_from ?_ hs; repeat constructor)) ?_; clear hd hs; intro hd hs
      refine L_each [15] (by kernel_rfl) ⟨?_, trivial⟩
      simp only [nth]
      go_wp2_with (apply apx hs; exact rfl; exact rfl; exact rfl; exact rfl; exact slty44; exact hs.b1.own_rds; exact HLF.out; exact lvs_one; (have h1 := HB.out; omega); (have h1 := HB.out; unfold maxLen; omega); clear hs; intro a5 c5 w hs)
      (refine on_now hs ?_); clear hs; intro hs
      refine L_on [cel b 46 [.pointer (some ⟨s, 0, none⟩), .bool true, .int .i64 c2, .slice (some ⟨g2, 0, none⟩) i0 cc, .int .i64 top, .int .i64 bot]] [cel b 46 [.pointer (some ⟨s, 0, none⟩), .bool true, .int .i64 c2, .slice (some ⟨g2, 0, none⟩) i0 cc, .int .i64 top, .int .i64 bot]] #[true, true, true, true, true, true, true, true, true, true, true, true, true, true, true, true, false, false, false] (fuel := 3) hs (by kernel_rfl) (fun _ h => h) (fun _ h => h) (fun _ => by (refine sb_from ?_ hs; repeat constructor)) (fun _ => by (refine sb_from ?_ hs; repeat constructor)) ?_; clear hd hs; intro hd hs
      refine L_each [16] (by kernel_rfl) ⟨?_, trivial⟩
      simp only [nth]
      go_wp2_with (fail)
      (refine on_now hs ?_); clear hs; intro hs
      refine L_on [cel b 46 [.pointer (some ⟨s, 0, none⟩), .bool true, .int .i64 c2, .slice (some ⟨g2, 0, none⟩) i0 cc, .int .i64 top, .int .i64 bot]] [cel b 46 [.pointer (some ⟨s, 0, none⟩), .bool true, .int .i64 c2, .slice (some ⟨g2, 0, none⟩) i0 cc, .int .i64 top, .int .i64 bot]] #[true, true, true, true, true, true, true, true, true, true, true, true, true, true, true, true, true, false, false] (fuel := 2) hs (by kernel_rfl) (fun _ h => h) (fun _ h => h) (fun _ => by (refine sb_from ?_ hs; repeat constructor)) (fun _ => by (refine sb_from ?_ hs; repeat constructor)) ?_; clear hd hs; intro hd hs
      refine L_reads2 [17] #[true, true, true, true, true, true, true, true, true, true, true, true, true, true, true, true, true, true, false] (fuel := 1) hd (by kernel_rfl) (fun _ _ _ _ _ h => h) ?_; clear hd; intro X f hne hf hcl hd; simp only [nths, nth, List.append_nil, List.nil_append, List.cons_append]; (try simp only [Act.put, List.setIfInBounds_toArray, List.set_cons_succ, List.set_cons_zero]); (repeat ((go_big_quiet_step (fail)); (try simp only [Act.put, List.setIfInBounds_toArray, List.set_cons_succ, List.set_cons_zero]))); refine wpQuiet_nil ?_; clear hcl hf hne f X
      refine L_each [18] (by kernel_rfl) ⟨?_, trivial⟩
      simp only [nth]
      go_wp2_with (((with_reducible refine isl ?_); first | ((with_reducible apply stx); exact rfl; exact rfl; exact rfl; (exact hs.b3); exact rfl; exact rfl; exact rfl; kernel_rfl; exact rfl; clear hs; intro w hs)))
      (refine on_now hs ?_); clear hs; intro hs
      refine L_on [cel b 46 [.pointer (some ⟨s, 0, none⟩), .bool true, .int .i64 c2, .slice (some ⟨g2, 0, none⟩) i0 cc, .int .i64 top, .int .i64 bot]] [cel b 46 [.pointer (some ⟨s, 0, none⟩), .bool true, .int .i64 c2, .slice (some ⟨g2, 0, none⟩) i0 cc, .int .i64 top, .int .i64 bot]] #[true, true, true, true, true, true, true, true, true, true, true, true, true, true, true, true, true, true, true] (fuel := 0) hs (by kernel_rfl) (fun _ h => h) (fun _ h => h) (fun e => absurd e (by decide)) (fun e => absurd e (by decide)) ?_; clear hd hs; intro hd hs
      refine L_done (by kernel_rfl) ?_; clear hd
      go_wp2_with (((with_reducible refine isl ?_); first | ((with_reducible apply stx); exact rfl; exact rfl; exact rfl; (exact hs.b0); exact rfl; exact rfl; exact rfl; kernel_rfl; exact rfl; clear hs; intro w hs) | ((with_reducible apply stcx); exact rfl; exact rfl; exact rfl; (exact hs.b0); exact rfl; exact rfl; kernel_rfl; exact rfl; clear hs; intro w hs)))
      refine end_ret rfl (results_tmp2 rfl _ _ _) ?_
      have e8 : ((y - k : Nat) : Int) = (y : Int) - (k : Int) := by omega
      refine ⟨by rw [e8]; rfl, ?_⟩
      have hlv : (lvs p1).flatten ++ (lvs pf).flatten = (lvs (p1.map (rsz c2) ++ pf)).flatten := by rw [lvs_app, List.flatten_append, HLV.out]
      rw [hlv] at hs
      have h1 := lrw_app (by refine sb_from ?_ hs; repeat constructor : sat W (lrw 96 (p1.map (rsz c2)) :: lrw 96 pf :: cel b 46 [.pointer (some ⟨s, 0, none⟩), .bool true, .int .i64 c2, .slice a5 (i0 + m) c5, .int .i64 0, .int .i64 ((rows : Int) - 1)] :: own 81 2 (.slice a5 (i0 + m) c5) (i0 + m) (lvs (p1.map (rsz c2) ++ pf)).flatten :: stP s most (nx + m) (pushs most SL (L.take k)) :: H) w)
      have HOF : Hid ((p1.map (rsz c2) ++ pf).map PL.ln = ((L.drop k).take i0).map (rszL c2) ++ frL m nx (frC c2 At.z) ∧ (p1.map (rsz c2) ++ pf).length = i0 + m) := Lib.hid ⟨by rw [List.map_append, rsz_map, HO1.out.1, HPF.out.1], by rw [List.length_append, List.length_map, HO1.out.2, HPF.out.2]⟩
      exact sc_close HOF (by refine sb_from ?_ h1; repeat constructor)
set_option maxRecDepth 20000 in
theorem sresize19_false {b s N cols most rows c2 y k n1 m : Nat} {top bot nx : Int} {L SL : List LN} (hn : L.length = N) (hN : N ≤ 512) (ok : LOK L) (idk : IDK nx L) (r0 : 1 ≤ rows) (r1 : rows ≤ 512) (c0 : 1 ≤ c2) (c1 : c2 ≤ 512) (hy : y < N) (hk : k = y + 1 - rows) (h1 : n1 = min rows (N - k)) (hm : m = rows - n1) (hnx : 0 < nx) (hnb : nx + 512 ≤ 1000000) (hmo : most ≤ 10000)
    (hs : sat W (scP b s ⟨false, cols, top, bot, L⟩ :: stP s most nx SL :: H) w) :
    Calls Try.prog 19 #[.pointer (some ⟨b, 0, none⟩), .int .i64 (rows : Int), .int .i64 (c2 : Int), .int .i64 (y : Int)] w fun e w' => e = .returned (.tuple #[.int .i64 ((y - k : Nat) : Int), .int .i64 0]) ∧ sat W (scP b s ⟨false, c2, 0, (rows : Int) - 1, ((L.drop k).take n1).map (rszL c2) ++ frL m nx (frC c2 At.z)⟩ :: stP s most (nx + m) SL :: H) w' := by
  have h0 : 0 < N := by omega
  obtain ⟨ps, g, p, HO, hs⟩ := sc_open' hn h0 hs
  obtain ⟨hnp, hpm⟩ := hs.b1.own_len
  have hp63 : (p : Int) ≤ 9223372036854775807 := by unfold maxLen at hpm; omega
  have HR := Lib.hid (show decide (1 ≤ (rows : Int) ∧ (rows : Int) ≤ 512) = true from decide_eq_true (by omega))
  have HC := Lib.hid (show decide (1 ≤ (c2 : Int) ∧ (c2 : Int) ≤ 512) = true from decide_eq_true (by omega))
  have g1 : decide ((y : Int) < 0) = false := decide_eq_false (by omega)
  have g2 : decide ((N : Int) ≤ (y : Int)) = false := decide_eq_false (by omega)
  have HE : Hid ((if (y : Int) - (rows : Int) + 1 < 0 then (0 : Int) else (y : Int) - (rows : Int) + 1) = (k : Int)) := Lib.hid (by split <;> omega)
  have hkN : k < N := by omega
  have hpk : ¬ p = k := by omega
  have hky : k ≤ y := by omega
  have HK := Lib.hid (And.intro ok idk)
  have HB := Lib.hid (And.intro hN (And.intro r1 (And.intro c1 (And.intro hnb (And.intro hmo (And.intro hk (And.intro h1 hm)))))))
  clear hn ok idk hpm hk h1 hm
  go_enter Try.func19, Try.ntmps19
  go_upto_region 6 with (first | (go_at_call 37; refine (sready37 h0 (by (apply sk_from (hs := hs); repeat constructor))).mono ?_; clear hs; rintro e w ⟨rfl, hs⟩) | (go_at_call 44; refine (may44 (x := (rows : Int)) hs).mono ?_; clear hs; rintro e w ⟨rfl, hs⟩; rw [HR.out]) | (go_at_call 44; refine (may44 (x := (c2 : Int)) hs).mono ?_; clear hs; rintro e w ⟨rfl, hs⟩; rw [HC.out]) | ((with_reducible refine isl ?_); first | ((with_reducible apply ldx); exact rfl; exact rfl; exact rfl; (exact hs.b0); exact rfl; kernel_rfl)))
  rw [HE.out]
  generalize (y : Int) - (rows : Int) + 1 = q0
  go_upto_region 8 with (((with_reducible refine isl ?_); first | ((with_reducible apply ldx); exact rfl; exact rfl; exact rfl; (exact hs.b0); exact rfl; kernel_rfl)))
  go_upto_region 9 with (first | (go_at_call 46; refine (sclone46 hkN HO.out.2 HB.out.1 (by (apply sk_from (hs := hs); repeat constructor))).mono ?_; clear hs; rintro e w ⟨g2, cc, rfl, hs⟩) | ((with_reducible refine isl ?_); first | ((with_reducible apply ldx); exact rfl; exact rfl; exact rfl; (exact hs.b0); exact rfl; kernel_rfl) | ((with_reducible apply stx); exact rfl; exact rfl; exact rfl; (exact hs.b2); exact rfl; exact rfl; exact rfl; kernel_rfl; exact rfl; clear hs; intro w hs)))
  have hcc := hs.b1.own_len
  ((try simp only [Act.put, List.setIfInBounds_toArray, List.set_cons_succ, List.set_cons_zero]); refine region_tail 15 hs (by kernel_rfl) (by kernel_rfl) ?_; simp only [List.take_succ_cons, List.take_zero, List.drop_succ_cons, List.drop_zero]; clear hs; intro w hs; (repeat ((first | ((with_reducible apply ldt hs.b0); exact rfl; exact rfl; exact rfl; exact rfl; kernel_rfl) | go_big_quiet_step (fail)); (try simp only [Act.put, List.setIfInBounds_toArray, List.set_cons_succ, List.set_cons_zero]))); refine wpQuiet_nil ?_)
  have HE2 : Hid ((if N - k < rows then ((N - k : Nat) : Int) else (rows : Int)).toNat = n1) := Lib.hid (by have := HB.out.2.2.2.2.2.2.1; split <;> omega)
  have hn1 : n1 ≤ N - k := by have := HB.out.2.2.2.2.2.2.1; omega
  have hn1p : 0 < n1 := by have := HB.out.2.2.2.2.2.2.1; omega
  have hn1s : n1 ≤ 512 := by have := HB.out.1; omega
  go_upto_region 10 with (((with_reducible refine isl ?_); first | ((with_reducible apply stx); exact rfl; exact rfl; exact rfl; (exact hs.b0); exact rfl; exact rfl; exact rfl; kernel_rfl; exact rfl; clear hs; intro w hs)))
  rw [HE2.out] at hs ⊢
  generalize (if N - k < rows then ((N - k : Nat) : Int) else (rows : Int)) = q1
  have hs1 := hs.b1.own_take (q := n1) (by omega) hn1
  rw [flat_take _ _ (lvs2 _), lvs_take] at hs1
  have hs2 := lrw_take n1 (lrw_drop k (by refine sb_from ?_ hs1; repeat constructor : sat W (lrw 96 ps :: own 81 2 (.slice (some ⟨g2, 0, none⟩) n1 cc) n1 (lvs ((ps.drop k).take n1)).flatten :: cel b 46 [.pointer (some ⟨s, 0, none⟩), .bool false, .int .i64 cols, .slice (some ⟨g2, 0, none⟩) n1 cc, .int .i64 top, .int .i64 bot] :: stP s most nx SL :: H) w))
  clear hs hs1
  have HO1 : Hid (((ps.drop k).take n1).map PL.ln = (L.drop k).take n1 ∧ ((ps.drop k).take n1).length = n1) := Lib.hid ⟨by rw [List.map_take, List.map_drop, HO.out.1], by rw [List.length_take, List.length_drop, HO.out.2]; omega⟩
  have HOK : Hid (LOK ((L.drop k).take n1)) := Lib.hid fun x hx => HK.out.1 x (List.mem_of_mem_drop (List.mem_of_mem_take hx))
  generalize (ps.drop k).take n1 = p1 at hs2 HO1
  have hs : sat W (own 81 2 (.slice (some ⟨g2, 0, none⟩) n1 cc) n1 (lvs p1).flatten :: lrw 96 p1 :: cel b 46 [.pointer (some ⟨s, 0, none⟩), .bool false, .int .i64 cols, .slice (some ⟨g2, 0, none⟩) n1 cc, .int .i64 top, .int .i64 bot] :: stP s most nx SL :: H) w := by refine sb_from ?_ hs2; repeat constructor
  clear hs2
  go_wp2_with (((with_reducible refine isl ?_); first | ((with_reducible apply ldx); exact rfl; exact rfl; exact rfl; (exact hs.b0); exact rfl; kernel_rfl) | ((with_reducible apply stx); exact rfl; exact rfl; exact rfl; (exact hs.b2); exact rfl; exact rfl; exact rfl; kernel_rfl; exact rfl; clear hs; intro w hs)))
  go_loopw [90] (fun i wx => ∃ i0 : Nat, i0 ≤ n1 ∧ i = .int .i64 (i0 : Int) ∧ sat W (own 81 2 (.slice (some ⟨g2, 0, none⟩) n1 cc) n1 (lvs p1).flatten :: lrw 96 ((p1.take i0).map (rsz c2) ++ p1.drop i0) :: cel b 46 [.pointer (some ⟨s, 0, none⟩), .bool false, .int .i64 c2, .slice (some ⟨g2, 0, none⟩) n1 cc, .int .i64 top, .int .i64 bot] :: stP s most nx SL :: H) wx) (fun i _ => ((n1 : Int) - intOf i).toNat)
  case atStart => exact ⟨0, Nat.zero_le _, rfl, by refine sb_from ?_ hs; repeat constructor⟩
  case round =>
    clear hs
    obtain ⟨i0, hi, rfl, hs⟩ := hrel
    by_cases hin : i0 < n1
    · have hin2 : (i0 : Int) < (n1 : Int) := by omega
      obtain ⟨⟨xid, xb, xl⟩, hx⟩ : ∃ x, p1[i0]? = some x := ⟨_, List.getElem?_eq_getElem (by rw [HO1.out.2]; exact hin)⟩
      have hx2 : ((L.drop k).take n1)[i0]? = some (xid, xl) := by rw [← HO1.out.1, List.getElem?_map, hx]; rfl
      obtain ⟨m0, m1, m2⟩ := HOK.out _ (List.mem_of_getElem? hx2)
      simp only at m0 m1 m2
      obtain ⟨mm, hmm⟩ : ∃ mm, xl.length = mm := ⟨_, rfl⟩
      rw [hmm] at m0 m1
      have HLL := Lib.hid hmm
      have HX := Lib.hid (lvs_get hx)
      have HXX := Lib.hid hx
      have hs1 := lrw_at (rsz_at (m := c2) hx) hs.b1
      clear hx hx2 hmm hs m2
      have hs : sat W (own 81 2 (.slice (some ⟨g2, 0, none⟩) n1 cc) n1 (lvs p1).flatten :: cel b 46 [.pointer (some ⟨s, 0, none⟩), .bool false, .int .i64 c2, .slice (some ⟨g2, 0, none⟩) n1 cc, .int .i64 top, .int .i64 bot] :: rwP 96 xb xl :: lrw 96 (((p1.take i0).map (rsz c2) ++ p1.drop i0).take i0) :: lrw 96 (((p1.take i0).map (rsz c2) ++ p1.drop i0).drop (i0 + 1)) :: stP s most nx SL :: H) wr := by refine sb_from ?_ hs1; repeat constructor
      clear hs1
      go_wp2_with (first | (go_at_call 47; refine (resize26_ok HLL.out m0 m1 c0 HB.out.2.2.1 (by (apply sk_from (hs := hs); repeat constructor))).mono ?_; clear hs; rintro e w ⟨rfl, hs⟩) | ((with_reducible refine isl ?_); first | ((with_reducible apply ldor hs.b0); exact rfl; exact rfl; exact rfl; exact HX.out; exact lvs2 _; exact row81) | ((with_reducible refine wrap hs ?_); clear hs; generalize wr.heap.size = z9; intro w hs) | ((with_reducible apply stswx); exact rfl; exact rfl; exact rfl; (exact hs.b0); exact rfl; exact row81; exact rfl; exact rfl; exact rfl; clear hs; intro w hs) | ((with_reducible apply ldx); exact rfl; exact rfl; exact rfl; (exact hs.b0); exact rfl; kernel_rfl)))
      go_roundw
      case rel =>
        refine ⟨i0 + 1, by omega, by go_num, ?_⟩
        have h4 := lrw_put (l := (p1.take i0).map (rsz c2) ++ p1.drop i0) (i := i0) (y := rsz c2 ⟨xid, xb, xl⟩) (List.getElem?_eq_some_iff.1 (rsz_at (m := c2) HXX.out)).1 (by refine sb_from ?_ hs; repeat constructor : sat W (rwP 96 xb (resG xl c2) :: lrw 96 (((p1.take i0).map (rsz c2) ++ p1.drop i0).take i0) :: lrw 96 (((p1.take i0).map (rsz c2) ++ p1.drop i0).drop (i0 + 1)) :: own 81 2 (.slice (some ⟨g2, 0, none⟩) n1 cc) n1 (lvs p1).flatten :: cel b 46 [.pointer (some ⟨s, 0, none⟩), .bool false, .int .i64 c2, .slice (some ⟨g2, 0, none⟩) n1 cc, .int .i64 top, .int .i64 bot] :: stP s most nx SL :: H) w)
        rw [rsz_set HXX.out] at h4
        refine sb_from ?_ h4; repeat constructor
      case measure => simp [intOf]; omega
    · obtain rfl : i0 = n1 := by omega
      have HP2 : Hid ((p1.take i0).map (rsz c2) ++ p1.drop i0 = p1.map (rsz c2)) := Lib.hid (by rw [List.take_of_length_le (by rw [HO1.out.2]; exact Nat.le_refl _), List.drop_of_length_le (by rw [HO1.out.2]; exact Nat.le_refl _), List.append_nil])
      rw [HP2.out] at hs
      have hm5 : m ≤ 512 := by have := HB.out; omega
      have e7 : (rows : Int) - (i0 : Int) = ((m : Nat) : Int) := by have := HB.out; omega
      have HM5 := Lib.hid hm5
      have HLV : Hid (lvs (p1.map (rsz c2)) = lvs p1) := Lib.hid (by have h := lvs_rsz c2 i0 p1; rw [HP2.out] at h; exact h)
      clear hin hm5
      go_upto_region 16 with (fail)
      refine L_begin 18 18 [cel b 46 [.pointer (some ⟨s, 0, none⟩), .bool false, .int .i64 c2, .slice (some ⟨g2, 0, none⟩) i0 cc, .int .i64 top, .int .i64 bot]] [cel b 46 [.pointer (some ⟨s, 0, none⟩), .bool false, .int .i64 c2, .slice (some ⟨g2, 0, none⟩) i0 cc, .int .i64 top, .int .i64 bot]] hs (fun _ h => by (refine sb_from ?_ h; repeat constructor)) (fun _ h => by (refine sb_from ?_ h; repeat constructor)) (by kernel_rfl) ?_; clear hs; intro w hs hd
      refine L_reads2 [0, 1, 2, 3, 4, 5, 6, 7, 8, 9, 10, 11, 12, 13] #[true, true, true, true, true, true, true, true, true, true, true, true, true, true, false, false, false, false, false] (fuel := 5) hd (by kernel_rfl) (fun _ _ _ _ _ h => h) ?_; clear hd; intro X f hne hf hcl hd; simp only [nths, nth, List.append_nil, List.nil_append, List.cons_append]; (try simp only [Act.put, List.setIfInBounds_toArray, List.set_cons_succ, List.set_cons_zero]); (repeat ((first | ((with_reducible apply ldqx); exact rfl; exact rfl; exact rfl; (exact fun x => (hf x).b0); exact rfl; kernel_rfl) | go_big_quiet_step (fail)); (try simp only [Act.put, List.setIfInBounds_toArray, List.set_cons_succ, List.set_cons_zero]))); refine wpQuiet_nil ?_; clear hcl hf hne f X
      refine L_each [14] (by kernel_rfl) ⟨?_, trivial⟩
      simp only [nth]
      go_wp2_with (go_at_call 45; refine (fresh45 (n := m) (nx := nx) (cols := c2) (s := s) (most := most) (SL := SL) (at_ := At.z) HM5.out c0 HB.out.2.2.1 hnx (by have h1 := HB.out; have h2 := HM5.out; omega) (by (apply sk_from (hs := hs); repeat constructor))).mono ?_; clear hs; rintro e w ⟨g3, rfl, hs⟩; obtain ⟨pf, hpf1, hpf2, hs⟩ := ln_open (frL_len _ _ _) hs; have HPF := Lib.hid (And.intro hpf1 hpf2); have HLF := Lib.hid (show (lvs pf).flatten.length = m * 2 by rw [lvs_size, hpf2]); clear hpf1 hpf2; replace hs : sat W (own 81 2 (.slice (some ⟨g2, 0, none⟩) i0 cc) i0 (lvs p1).flatten :: own 81 2 (.slice (some ⟨g3, 0, none⟩) m m) m (lvs pf).flatten :: lrw 96 pf :: cel b 46 [.pointer (some ⟨s, 0, none⟩), .bool false, .int .i64 c2, .slice (some ⟨g2, 0, none⟩) i0 cc, .int .i64 top, .int .i64 bot] :: stP s most (nx + m) SL :: lrw 96 (p1.map (rsz c2)) :: H) w := by refine sb_from ?_ hs; repeat constructor)
      (refine on_now hs ?_); clear hs; intro hs
      refine L_on [cel b 46 [.pointer (some ⟨s, 0, none⟩), .bool false, .int .i64 c2, .slice (some ⟨g2, 0, none⟩) i0 cc, .int .i64 top, .int .i64 bot]] [cel b 46 [.pointer (some ⟨s, 0, none⟩), .bool false, .int .i64 c2, .slice (some ⟨g2, 0, none⟩) i0 cc, .int .i64 top, .int .i64 bot]] #[true, true, true, true, true, true, true, true, true, true, true, true, true, true, true, false, false, false, false] (fuel := 4) hs (by kernel_rfl) (fun _ h => h) (fun _ h => h) (fun _ => by (refine sb_from ?_ hs; repeat constructor)) (fun _ => by (refine sb_from ?_ hs; repeat constructor)) ?_; clear hd hs; intro hd hs
      refine L_each [15] (by kernel_rfl) ⟨?_, trivial⟩
      simp only [nth]
      go_wp2_with (apply apx hs; exact rfl; exact rfl; exact rfl; exact rfl; exact slty44; exact hs.b1.own_rds; exact HLF.out; exact lvs_one; (have h1 := HB.out; omega); (have h1 := HB.out; unfold maxLen; omega); clear hs; intro a5 c5 w hs)
      (refine on_now hs ?_); clear hs; intro hs
      refine L_on [cel b 46 [.pointer (some ⟨s, 0, none⟩), .bool false, .int .i64 c2, .slice (some ⟨g2, 0, none⟩) i0 cc, .int .i64 top, .int .i64 bot]] [cel b 46 [.pointer (some ⟨s, 0, none⟩), .bool false, .int .i64 c2, .slice (some ⟨g2, 0, none⟩) i0 cc, .int .i64 top, .int .i64 bot]] #[true, true, true, true, true, true, true, true, true, true, true, true, true, true, true, true, false, false, false] (fuel := 3) hs (by kernel_rfl) (fun _ h => h) (fun _ h => h) (fun _ => by (refine sb_from ?_ hs; repeat constructor)) (fun _ => by (refine sb_from ?_ hs; repeat constructor)) ?_; clear hd hs; intro hd hs
      refine L_each [16] (by kernel_rfl) ⟨?_, trivial⟩
      simp only [nth]
      go_wp2_with (fail)
      (refine on_now hs ?_); clear hs; intro hs
      refine L_on [cel b 46 [.pointer (some ⟨s, 0, none⟩), .bool false, .int .i64 c2, .slice (some ⟨g2, 0, none⟩) i0 cc, .int .i64 top, .int .i64 bot]] [cel b 46 [.pointer (some ⟨s, 0, none⟩), .bool false, .int .i64 c2, .slice (some ⟨g2, 0, none⟩) i0 cc, .int .i64 top, .int .i64 bot]] #[true, true, true, true, true, true, true, true, true, true, true, true, true, true, true, true, true, false, false] (fuel := 2) hs (by kernel_rfl) (fun _ h => h) (fun _ h => h) (fun _ => by (refine sb_from ?_ hs; repeat constructor)) (fun _ => by (refine sb_from ?_ hs; repeat constructor)) ?_; clear hd hs; intro hd hs
      refine L_reads2 [17] #[true, true, true, true, true, true, true, true, true, true, true, true, true, true, true, true, true, true, false] (fuel := 1) hd (by kernel_rfl) (fun _ _ _ _ _ h => h) ?_; clear hd; intro X f hne hf hcl hd; simp only [nths, nth, List.append_nil, List.nil_append, List.cons_append]; (try simp only [Act.put, List.setIfInBounds_toArray, List.set_cons_succ, List.set_cons_zero]); (repeat ((go_big_quiet_step (fail)); (try simp only [Act.put, List.setIfInBounds_toArray, List.set_cons_succ, List.set_cons_zero]))); refine wpQuiet_nil ?_; clear hcl hf hne f X
      refine L_each [18] (by kernel_rfl) ⟨?_, trivial⟩
      simp only [nth]
      go_wp2_with (((with_reducible refine isl ?_); first | ((with_reducible apply stx); exact rfl; exact rfl; exact rfl; (exact hs.b3); exact rfl; exact rfl; exact rfl; kernel_rfl; exact rfl; clear hs; intro w hs)))
      (refine on_now hs ?_); clear hs; intro hs
      refine L_on [cel b 46 [.pointer (some ⟨s, 0, none⟩), .bool false, .int .i64 c2, .slice (some ⟨g2, 0, none⟩) i0 cc, .int .i64 top, .int .i64 bot]] [cel b 46 [.pointer (some ⟨s, 0, none⟩), .bool false, .int .i64 c2, .slice (some ⟨g2, 0, none⟩) i0 cc, .int .i64 top, .int .i64 bot]] #[true, true, true, true, true, true, true, true, true, true, true, true, true, true, true, true, true, true, true] (fuel := 0) hs (by kernel_rfl) (fun _ h => h) (fun _ h => h) (fun e => absurd e (by decide)) (fun e => absurd e (by decide)) ?_; clear hd hs; intro hd hs
      refine L_done (by kernel_rfl) ?_; clear hd
      go_wp2_with (((with_reducible refine isl ?_); first | ((with_reducible apply stx); exact rfl; exact rfl; exact rfl; (exact hs.b0); exact rfl; exact rfl; exact rfl; kernel_rfl; exact rfl; clear hs; intro w hs) | ((with_reducible apply stcx); exact rfl; exact rfl; exact rfl; (exact hs.b0); exact rfl; exact rfl; kernel_rfl; exact rfl; clear hs; intro w hs)))
      refine end_ret rfl (results_tmp2 rfl _ _ _) ?_
      have e8 : ((y - k : Nat) : Int) = (y : Int) - (k : Int) := by omega
      refine ⟨by rw [e8]; rfl, ?_⟩
      have hlv : (lvs p1).flatten ++ (lvs pf).flatten = (lvs (p1.map (rsz c2) ++ pf)).flatten := by rw [lvs_app, List.flatten_append, HLV.out]
      rw [hlv] at hs
      have h1 := lrw_app (by refine sb_from ?_ hs; repeat constructor : sat W (lrw 96 (p1.map (rsz c2)) :: lrw 96 pf :: cel b 46 [.pointer (some ⟨s, 0, none⟩), .bool false, .int .i64 c2, .slice a5 (i0 + m) c5, .int .i64 0, .int .i64 ((rows : Int) - 1)] :: own 81 2 (.slice a5 (i0 + m) c5) (i0 + m) (lvs (p1.map (rsz c2) ++ pf)).flatten :: stP s most (nx + m) SL :: H) w)
      have HOF : Hid ((p1.map (rsz c2) ++ pf).map PL.ln = ((L.drop k).take i0).map (rszL c2) ++ frL m nx (frC c2 At.z) ∧ (p1.map (rsz c2) ++ pf).length = i0 + m) := Lib.hid ⟨by rw [List.map_append, rsz_map, HO1.out.1, HPF.out.1], by rw [List.length_append, List.length_map, HO1.out.2, HPF.out.2]⟩
      exact sc_close HOF (by refine sb_from ?_ h1; repeat constructor)
end Go.Proofs.Ytdcagaaanbgcoaa
