/- Law 8: Copy; the document's store. -/
import Derived.Test.YtbaplncifomfnaaL5
namespace Go.Proofs.Ytbaplncifomfnaa
open Go.RowKit Go.Mem Go.Cells Go.Lines
variable {W w : World} {H : List HProp}
theorem push_take {α : Type} {most i : Nat} {L : List α} {x : α} (hx : L[i]? = some x) (hm : L.length ≤ most) : push most (L.take i) x = L.take (i + 1) := by
  have hi := (List.getElem?_eq_some_iff.1 hx).1
  unfold push
  rw [if_neg (by rw [List.length_append, List.length_take]; simp; omega), List.take_add_one, hx]
  rfl
attribute [local irreducible] rowTy oneTy World.setCell World.setCells World.alloc World.drew World.drewN Calls sat cel own blk old wpQuiet wpList cmb cmb1 rwP cls rws wi wh fst_ World.rangeAt lrw lnP stP lsP dsP lvs
theorem copy16 {b most : Nat} {nx : Int} {L : List LN} (hok : LOK L) (hm : most ≤ 10000) (h : 0 < nx) (hs : sat W (stP b most nx L :: H) w) :
    Calls Try.prog 16 #[.pointer (some ⟨b, 0, none⟩)] w fun e w' => ∃ c, e = .returned (.pointer (some ⟨c, 0, none⟩)) ∧ sat W (stP c most nx L :: stP b most nx L :: H) w' := by
  have HK := Lib.hid hok
  obtain ⟨first, n, ps, a, p, HO, hn, hf, hs⟩ := st_open hs
  have h1n : n ≤ 10000 := by omega
  have HLE := Lib.hid (show L.length ≤ most by rw [HO.out.sz]; exact hn)
  clear hok
  go_enter Try.func16, Try.ntmps16
  go_upto_region 3 with (first | (go_at_call 27; refine (ready27 h (by (apply sk_from (hs := hs); repeat constructor))).mono ?_; clear hs; rintro e w ⟨rfl, hs⟩) | ((with_reducible refine isl ?_); first | ((with_reducible apply ld hs.b0); exact rfl; exact rfl; exact rfl; exact rfl; kernel_rfl) | ((with_reducible apply ld hs.b1); exact rfl; exact rfl; exact rfl; exact rfl; kernel_rfl) | ((with_reducible apply st hs.b0); exact rfl; exact rfl; exact rfl; exact rfl; exact rfl; exact rfl; kernel_rfl; exact rfl; clear hs; intro w hs) | ((with_reducible apply st hs.b1); exact rfl; exact rfl; exact rfl; exact rfl; exact rfl; exact rfl; kernel_rfl; exact rfl; clear hs; intro w hs) | ((with_reducible apply stc hs.b0); exact rfl; exact rfl; exact rfl; exact rfl; exact rfl; kernel_rfl; exact rfl; clear hs; intro w hs) | ((with_reducible apply stc hs.b1); exact rfl; exact rfl; exact rfl; exact rfl; exact rfl; kernel_rfl; exact rfl; clear hs; intro w hs) | ((with_reducible refine wrap hs ?_); clear hs; intro w hs) | ((with_reducible refine wrapn hs ?_); clear hs; intro w hs) | ((with_reducible refine wrapd hs ?_); clear hs; intro w hs)))
  refine region_mix [([0, 1, 2, 3, 4, 5, 6, 7, 8, 9, 10], [11])] [12] hs (fun _ h => by (show sat W [cel b 49 [.int .i64 most, .int .i64 first, .slice a n p, .int .i64 nx]] _; refine sb_from ?_ h; repeat constructor)) (by kernel_rfl) (by kernel_rfl) (fun _ _ _ _ _ h => h) ?_
  simp only [segs, nths, nth, List.append_nil, List.nil_append, List.cons_append, List.map_cons, List.map_nil]
  refine seg_reads (fun _ h => by (show sat W [cel b 49 [.int .i64 most, .int .i64 first, .slice a n p, .int .i64 nx]] _; refine sb_from ?_ h; repeat constructor)) ?_; intro X f hne hf hcl; (try simp only [Act.put, List.setIfInBounds_toArray, List.set_cons_succ, List.set_cons_zero]); (repeat ((first | ((with_reducible apply ldq (fun x => (hf x).b0)); exact rfl; exact rfl; exact rfl; exact rfl; kernel_rfl) | ((with_reducible apply ldq (fun x => (hf x).b1)); exact rfl; exact rfl; exact rfl; exact rfl; kernel_rfl) | ((with_reducible apply ldq (fun x => (hf x).b2)); exact rfl; exact rfl; exact rfl; exact rfl; kernel_rfl) | go_big_quiet_step (fail)); (try simp only [Act.put, List.setIfInBounds_toArray, List.set_cons_succ, List.set_cons_zero]))); refine wpQuiet_nil ?_; clear hcl hf hne hs f X; intro w hs
  go_wp2_with (first | ((with_reducible refine isl ?_); first | ((with_reducible refine wrap hs ?_); clear hs; intro w hs) | ((with_reducible refine wrapn hs ?_); clear hs; intro w hs) | ((with_reducible refine wrapd hs ?_); clear hs; intro w hs)))
  (first | (refine seg_on hs.made (fun _ h => h) (fun _ h => by (show sat W [cel b 49 [.int .i64 most, .int .i64 first, .slice a n p, .int .i64 nx]] _; refine sb_from ?_ h; repeat constructor)) ?_; clear hs; intro hs; generalize w.heap.size = c at hs ⊢) | (refine seg_on hs (fun _ h => h) (fun _ h => by (show sat W [cel b 49 [.int .i64 most, .int .i64 first, .slice a n p, .int .i64 nx]] _; refine sb_from ?_ h; repeat constructor)) ?_; clear hs; intro hs) | (refine seg_on hs.made (fun _ h => h) (fun _ h => by (show sat W [cel b 49 [.int .i64 most, .int .i64 first, .slice a n p, .int .i64 nx]] _; refine sb_from ?_ h; repeat constructor)) ?_; clear hs; intro hs) | (refine seg_on hs.drew (fun _ h => h) (fun _ h => by (show sat W [cel b 49 [.int .i64 most, .int .i64 first, .slice a n p, .int .i64 nx]] _; refine sb_from ?_ h; repeat constructor)) ?_; clear hs; intro hs) | (refine seg_on hs.drew.made (fun _ h => h) (fun _ h => by (show sat W [cel b 49 [.int .i64 most, .int .i64 first, .slice a n p, .int .i64 nx]] _; refine sb_from ?_ h; repeat constructor)) ?_; clear hs; intro hs) | (refine seg_on (hs.drewN _) (fun _ h => h) (fun _ h => by (show sat W [cel b 49 [.int .i64 most, .int .i64 first, .slice a n p, .int .i64 nx]] _; refine sb_from ?_ h; repeat constructor)) ?_; clear hs; intro hs))
  refine seg_last (fun _ h => by (show sat W [cel b 49 [.int .i64 most, .int .i64 first, .slice a n p, .int .i64 nx]] _; refine sb_from ?_ h; repeat constructor)) ?_; intro X f hne hf hcl; (try simp only [Act.put, List.setIfInBounds_toArray, List.set_cons_succ, List.set_cons_zero]); (repeat ((first | ((with_reducible apply ldq (fun x => (hf x).b0)); exact rfl; exact rfl; exact rfl; exact rfl; kernel_rfl) | ((with_reducible apply ldq (fun x => (hf x).b1)); exact rfl; exact rfl; exact rfl; exact rfl; kernel_rfl) | ((with_reducible apply ldq (fun x => (hf x).b2)); exact rfl; exact rfl; exact rfl; exact rfl; kernel_rfl) | go_big_quiet_step (fail)); (try simp only [Act.put, List.setIfInBounds_toArray, List.set_cons_succ, List.set_cons_zero]))); refine wpQuiet_nil ?_; clear hcl hf hne hs f X; intro w hs
  go_upto_region 4 with fail
  have hs1 : sat W (stP c most nx (L.take 0) :: cel b 49 [.int .i64 most, .int .i64 first, .slice a n p, .int .i64 nx] :: own 29 2 (.slice a n p) n (lvs ps).flatten :: lrw 91 ps :: H) w := by
    rw [List.take_zero]
    exact st_mk (by refine sb_from ?_ hs; repeat constructor)
  clear hs
  have hs := hs1
  clear hs1
  go_wp2_with (first | (go_at_call 10; refine (len10 h (by (apply sk_from (hs := hs); repeat constructor))).mono ?_; clear hs; rintro e w ⟨rfl, hs⟩) | ((with_reducible refine isl ?_); first | ((with_reducible apply ld hs.b0); exact rfl; exact rfl; exact rfl; exact rfl; kernel_rfl) | ((with_reducible apply ld hs.b1); exact rfl; exact rfl; exact rfl; exact rfl; kernel_rfl) | ((with_reducible apply st hs.b0); exact rfl; exact rfl; exact rfl; exact rfl; exact rfl; exact rfl; kernel_rfl; exact rfl; clear hs; intro w hs) | ((with_reducible apply st hs.b1); exact rfl; exact rfl; exact rfl; exact rfl; exact rfl; exact rfl; kernel_rfl; exact rfl; clear hs; intro w hs) | ((with_reducible apply stc hs.b0); exact rfl; exact rfl; exact rfl; exact rfl; exact rfl; kernel_rfl; exact rfl; clear hs; intro w hs) | ((with_reducible apply stc hs.b1); exact rfl; exact rfl; exact rfl; exact rfl; exact rfl; kernel_rfl; exact rfl; clear hs; intro w hs) | ((with_reducible refine wrap hs ?_); clear hs; intro w hs) | ((with_reducible refine wrapn hs ?_); clear hs; intro w hs) | ((with_reducible refine wrapd hs ?_); clear hs; intro w hs)))
  go_loopw [23] (fun i wx => ∃ i0 : Nat, i0 ≤ n ∧ i = .int .i64 (i0 : Int) ∧ sat W (stP c most nx (L.take i0) :: cel b 49 [.int .i64 most, .int .i64 first, .slice a n p, .int .i64 nx] :: own 29 2 (.slice a n p) n (lvs ps).flatten :: lrw 91 ps :: H) wx) (fun i _ => ((n : Int) - intOf i).toNat)
  case atStart => exact ⟨0, Nat.zero_le _, rfl, by refine sb_from ?_ hs; repeat constructor⟩
  case round =>
    clear hs
    obtain ⟨i0, hi, rfl, hs⟩ := hrel
    by_cases hin : i0 < n
    · have hin2 : (i0 : Int) < (n : Int) := by omega
      obtain ⟨g, rfl⟩ := own_ptr (by omega) hs.b2
      obtain ⟨⟨id2, b2, l2⟩, hx1, hx2⟩ := HO.out.at hin
      have HX := Lib.hid hx1
      have HPT := Lib.hid (push_take hx2 HLE.out)
      obtain ⟨m0, m1, m2⟩ := HK.out _ (List.mem_of_getElem? hx2)
      simp only at m0 m1 m2
      obtain ⟨m, hm⟩ : ∃ m, l2.length = m := ⟨_, rfl⟩
      rw [hm] at m0 m1
      have HLL := Lib.hid hm
      have H4 := Lib.hid m2.m4
      obtain ⟨j, hj⟩ : ∃ j, (first + i0) % n = j := ⟨_, rfl⟩
      have HJ := Lib.hid hj
      have hs3 := lrw_at (i := j) (by rw [← HJ.out]; exact hx1) hs.b3
      clear hx1 hx2 m2 hm hj hs
      have hs : sat W (stP c most nx (L.take i0) :: cel b 49 [.int .i64 most, .int .i64 first, .slice (some ⟨g, 0, none⟩) n p, .int .i64 nx] :: own 29 2 (.slice (some ⟨g, 0, none⟩) n p) n (lvs ps).flatten :: rwP 91 b2 l2 :: lrw 91 (ps.take j) :: lrw 91 (ps.drop (j + 1)) :: H) wr := by refine sb_from ?_ hs3; repeat constructor
      clear hs3
      go_upto_region 8 with (first | (go_at_call 33; refine (get33 HX.out hin hf h1n (by (apply sk_from (hs := hs); repeat constructor))).mono ?_; clear hs; rintro e w ⟨rfl, hs⟩) | ((with_reducible refine isl ?_); first | ((with_reducible refine wrap hs ?_); clear hs; generalize World.heap _ = q at *; generalize q.size = z9; intro w hs) | ((with_reducible refine wrap hs ?_); clear hs; generalize wr.heap.size = z9; intro w hs) | ((with_reducible apply stsw hs.b0); exact rfl; exact rfl; exact rfl; exact rfl; exact row29; exact rfl; exact rfl; exact rfl; clear hs; intro w hs) | ((with_reducible apply stsw hs.b1); exact rfl; exact rfl; exact rfl; exact rfl; exact row29; exact rfl; exact rfl; exact rfl; clear hs; intro w hs) | ((with_reducible apply stsw hs.b2); exact rfl; exact rfl; exact rfl; exact rfl; exact row29; exact rfl; exact rfl; exact rfl; clear hs; intro w hs) | ((with_reducible apply ld hs.b0); exact rfl; exact rfl; exact rfl; exact rfl; kernel_rfl) | ((with_reducible apply ld hs.b1); exact rfl; exact rfl; exact rfl; exact rfl; kernel_rfl) | ((with_reducible apply ld hs.b2); exact rfl; exact rfl; exact rfl; exact rfl; kernel_rfl) | ((with_reducible apply ld hs.b3); exact rfl; exact rfl; exact rfl; exact rfl; kernel_rfl) | ((with_reducible apply st hs.b0); exact rfl; exact rfl; exact rfl; exact rfl; exact rfl; exact rfl; kernel_rfl; exact rfl; clear hs; intro w hs) | ((with_reducible apply st hs.b1); exact rfl; exact rfl; exact rfl; exact rfl; exact rfl; exact rfl; kernel_rfl; exact rfl; clear hs; intro w hs) | ((with_reducible apply st hs.b2); exact rfl; exact rfl; exact rfl; exact rfl; exact rfl; exact rfl; kernel_rfl; exact rfl; clear hs; intro w hs) | ((with_reducible apply st hs.b3); exact rfl; exact rfl; exact rfl; exact rfl; exact rfl; exact rfl; kernel_rfl; exact rfl; clear hs; intro w hs) | ((with_reducible apply stc hs.b0); exact rfl; exact rfl; exact rfl; exact rfl; exact rfl; kernel_rfl; exact rfl; clear hs; intro w hs) | ((with_reducible apply stc hs.b1); exact rfl; exact rfl; exact rfl; exact rfl; exact rfl; kernel_rfl; exact rfl; clear hs; intro w hs) | ((with_reducible apply stc hs.b2); exact rfl; exact rfl; exact rfl; exact rfl; exact rfl; kernel_rfl; exact rfl; clear hs; intro w hs) | ((with_reducible apply stc hs.b3); exact rfl; exact rfl; exact rfl; exact rfl; exact rfl; kernel_rfl; exact rfl; clear hs; intro w hs) | ((with_reducible refine wrap hs ?_); clear hs; intro w hs) | ((with_reducible refine wrapn hs ?_); clear hs; intro w hs) | ((with_reducible refine wrapd hs ?_); clear hs; intro w hs)))
      refine region_mix [([0, 1, 2, 3, 4, 5, 6], [7]), ([8], [9])] [] hs (fun _ h => by (show sat W [cel z9 29 [.int .i64 id2, .pointer (some ⟨b2, 0, none⟩)]] _; refine sb_from ?_ h; repeat constructor)) (by kernel_rfl) (by kernel_rfl) (fun _ _ _ _ _ h => h) ?_
      simp only [segs, nths, nth, List.append_nil, List.nil_append, List.cons_append, List.map_cons, List.map_nil]
      refine seg_reads (fun _ h => by (show sat W [cel z9 29 [.int .i64 id2, .pointer (some ⟨b2, 0, none⟩)]] _; refine sb_from ?_ h; repeat constructor)) ?_; intro X f hne hf hcl; (try simp only [Act.put, List.setIfInBounds_toArray, List.set_cons_succ, List.set_cons_zero]); (repeat ((first | ((with_reducible apply ldq (fun x => (hf x).b0)); exact rfl; exact rfl; exact rfl; exact rfl; kernel_rfl) | ((with_reducible apply ldq (fun x => (hf x).b1)); exact rfl; exact rfl; exact rfl; exact rfl; kernel_rfl) | go_big_quiet_step (fail)); (try simp only [Act.put, List.setIfInBounds_toArray, List.set_cons_succ, List.set_cons_zero]))); refine wpQuiet_nil ?_; clear hcl hf hne hs f X; intro w hs
      go_wp2_with (first | (go_at_call 32; refine (copy20 HLL.out m0 (by omega) H4.out (by (apply sk_from (hs := hs); repeat constructor))).mono ?_; clear hs; rintro e w ⟨b3, rfl, hs⟩) | (go_at_call 31; refine (add31 hm (by (apply sk_from (hs := hs); repeat constructor))).mono ?_; clear hs; rintro e w ⟨rfl, hs⟩; rw [HPT.out] at hs) | ((with_reducible refine isl ?_); first | ((with_reducible refine wrap hs ?_); clear hs; intro w hs) | ((with_reducible refine wrapn hs ?_); clear hs; intro w hs) | ((with_reducible refine wrapd hs ?_); clear hs; intro w hs)))
      (first | refine seg_on hs (fun _ h => h) ?_ ?_ | refine seg_on hs.made (fun _ h => h) ?_ ?_ | refine seg_on hs.drew (fun _ h => h) ?_ ?_ | refine seg_on hs.drew.made (fun _ h => h) ?_ ?_ | refine seg_on (hs.drewN _) (fun _ h => h) ?_ ?_)
      · exact fun _ h => by (show sat W [cel z9 29 [.int .i64 id2, .pointer (some ⟨b2, 0, none⟩)]] _; refine sb_from ?_ h; repeat constructor)
      clear hs; intro hs
      refine seg_reads (fun _ h => by (show sat W [cel z9 29 [.int .i64 id2, .pointer (some ⟨b2, 0, none⟩)]] _; refine sb_from ?_ h; repeat constructor)) ?_; intro X f hne hf hcl; (try simp only [Act.put, List.setIfInBounds_toArray, List.set_cons_succ, List.set_cons_zero]); (repeat ((first | ((with_reducible apply ldq (fun x => (hf x).b0)); exact rfl; exact rfl; exact rfl; exact rfl; kernel_rfl) | ((with_reducible apply ldq (fun x => (hf x).b1)); exact rfl; exact rfl; exact rfl; exact rfl; kernel_rfl) | go_big_quiet_step (fail)); (try simp only [Act.put, List.setIfInBounds_toArray, List.set_cons_succ, List.set_cons_zero]))); refine wpQuiet_nil ?_; clear hcl hf hne hs f X; intro w hs
      go_wp2_with (first | (go_at_call 32; refine (copy20 HLL.out m0 (by omega) H4.out (by (apply sk_from (hs := hs); repeat constructor))).mono ?_; clear hs; rintro e w ⟨b3, rfl, hs⟩) | (go_at_call 31; refine (add31 hm (by (apply sk_from (hs := hs); repeat constructor))).mono ?_; clear hs; rintro e w ⟨rfl, hs⟩; rw [HPT.out] at hs) | ((with_reducible refine isl ?_); first | ((with_reducible refine wrap hs ?_); clear hs; intro w hs) | ((with_reducible refine wrapn hs ?_); clear hs; intro w hs) | ((with_reducible refine wrapd hs ?_); clear hs; intro w hs)))
      (first | refine seg_on hs (fun _ h => h) ?_ ?_ | refine seg_on hs.made (fun _ h => h) ?_ ?_ | refine seg_on hs.drew (fun _ h => h) ?_ ?_ | refine seg_on hs.drew.made (fun _ h => h) ?_ ?_ | refine seg_on (hs.drewN _) (fun _ h => h) ?_ ?_)
      · exact fun _ h => by (show sat W [cel z9 29 [.int .i64 id2, .pointer (some ⟨b2, 0, none⟩)]] _; refine sb_from ?_ h; repeat constructor)
      clear hs; intro hs
      refine seg_last (fun _ h => by (show sat W [cel z9 29 [.int .i64 id2, .pointer (some ⟨b2, 0, none⟩)]] _; refine sb_from ?_ h; repeat constructor)) ?_; intro X f hne hf hcl; (try simp only [Act.put, List.setIfInBounds_toArray, List.set_cons_succ, List.set_cons_zero]); (repeat ((first | ((with_reducible apply ldq (fun x => (hf x).b0)); exact rfl; exact rfl; exact rfl; exact rfl; kernel_rfl) | ((with_reducible apply ldq (fun x => (hf x).b1)); exact rfl; exact rfl; exact rfl; exact rfl; kernel_rfl) | go_big_quiet_step (fail)); (try simp only [Act.put, List.setIfInBounds_toArray, List.set_cons_succ, List.set_cons_zero]))); refine wpQuiet_nil ?_; clear hcl hf hne hs f X; intro w hs
      go_wp2_with fail
      go_roundw
      case rel =>
        refine ⟨i0 + 1, by omega, by go_num, ?_⟩
        have hp : ps[j]? = some ⟨id2, b2, l2⟩ := by rw [← HJ.out]; exact HX.out
        have h3 : sat W (rwP 91 b2 l2 :: lrw 91 (ps.take j) :: lrw 91 (ps.drop (j + 1)) :: stP c most nx (L.take (i0 + 1)) :: cel b 49 [.int .i64 most, .int .i64 first, .slice (some ⟨g, 0, none⟩) n p, .int .i64 nx] :: own 29 2 (.slice (some ⟨g, 0, none⟩) n p) n (lvs ps).flatten :: H) w := by refine sb_from ?_ hs; repeat constructor
        have h4 := lrw_put (l := ps) (y := ⟨id2, b2, l2⟩) (List.getElem?_eq_some_iff.1 hp).1 h3
        rw [set_same hp] at h4
        refine sb_from ?_ h4; repeat constructor
      case measure => simp [intOf]; omega
    · have hge : ¬ (i0 : Int) < (n : Int) := by omega
      have HE : Hid (L.take i0 = L) := Lib.hid (List.take_of_length_le (by rw [HO.out.sz]; omega))
      rw [HE.out] at hs
      clear hin
      go_wp2_with fail
      go_ret
      have h5 := HO.out.close (by refine sb_from ?_ hs; repeat constructor : sat W (cel b 49 [.int .i64 most, .int .i64 first, .slice a n p, .int .i64 nx] :: own 29 2 (.slice a n p) n (lvs ps).flatten :: lrw 91 ps :: stP c most nx L :: H) wr)
      exact ⟨c, rfl, h5.b1⟩
theorem may17 {k : Int} (hs : sat W H w) : Calls Try.prog 17 #[.int .i64 k] w fun e w' => e = .returned (.bool (decide (0 ≤ k ∧ k ≤ 10000))) ∧ sat W H w' := by
  by_cases h1 : 0 ≤ k
  · have g1 : decide (0 ≤ k) = true := decide_eq_true h1
    by_cases h2 : k ≤ 10000
    · have g2 : decide (k ≤ 10000) = true := decide_eq_true h2
      have HD := Lib.hid (show decide (0 ≤ k ∧ k ≤ 10000) = true from decide_eq_true ⟨h1, h2⟩)
      rw [HD.out]
      clear h1 h2
      go_enter Try.func17, Try.ntmps17
      go_wp2_with fail
      go_ret
      exact ⟨rfl, hs⟩
    · have g2 : decide (k ≤ 10000) = false := decide_eq_false h2
      have HD := Lib.hid (show decide (0 ≤ k ∧ k ≤ 10000) = false from decide_eq_false (by omega))
      rw [HD.out]
      clear h1 h2
      go_enter Try.func17, Try.ntmps17
      go_wp2_with fail
      go_ret
      exact ⟨rfl, hs⟩
  · have g1 : decide (0 ≤ k) = false := decide_eq_false h1
    have HD := Lib.hid (show decide (0 ≤ k ∧ k ≤ 10000) = false from decide_eq_false (by omega))
    rw [HD.out]
    clear h1
    go_enter Try.func17, Try.ntmps17
    go_wp2_with fail
    go_ret
    exact ⟨rfl, hs⟩
theorem ds_mk {b most : Nat} {nx : Int} (hs : sat W (cel b 74 [.int .i64 nx, .int .i64 most, .slice none 0 0] :: H) w) : sat W (dsP b nx most [] :: H) w := by
  have e : (lvs []).flatten = [] := by unfold lvs; rfl
  have h1 := (lrw_nil (R := 70) (hs.own_nil 64 2)).b1.own_slP
  exact ds_close (n := 0) (ps := []) rfl rfl (by rw [e]; refine sb_from ?_ h1; repeat constructor)
theorem rnew18 {most : Nat} (hs : sat W H w) : Calls Try.prog 18 #[.int .i64 (most : Int)] w fun e w' => ∃ b, e = .returned (.pointer (some ⟨b, 0, none⟩)) ∧ sat W (dsP b 1 most [] :: H) w' := by
  go_enter Try.func18, Try.ntmps18
  go_wp2_with (first | ((with_reducible refine isl ?_); first | ((with_reducible apply ld hs.b0); exact rfl; exact rfl; exact rfl; exact rfl; kernel_rfl) | ((with_reducible apply st hs.b0); exact rfl; exact rfl; exact rfl; exact rfl; exact rfl; exact rfl; kernel_rfl; exact rfl; clear hs; intro w hs) | ((with_reducible apply stc hs.b0); exact rfl; exact rfl; exact rfl; exact rfl; exact rfl; kernel_rfl; exact rfl; clear hs; intro w hs) | ((with_reducible refine wrap hs ?_); clear hs; intro w hs) | ((with_reducible refine wrapn hs ?_); clear hs; intro w hs) | ((with_reducible refine wrapd hs ?_); clear hs; intro w hs)))
  go_ret
  exact ⟨_, rfl, ds_mk hs.made⟩
theorem rfind44 {b most : Nat} {nx id : Int} {L : List LN} (hm : L.length ≤ 10000) (hs : sat W (dsP b nx most L :: H) w) :
    Calls Try.prog 44 #[.pointer (some ⟨b, 0, none⟩), .int .i64 id] w fun e w' => e = .returned (.int .i64 (fnd L id)) ∧ sat W (dsP b nx most L :: H) w' := by
  obtain ⟨n, hn⟩ : ∃ n, L.length = n := ⟨_, rfl⟩
  rw [hn] at hm
  obtain ⟨ps, a, c, HO, hs⟩ := ds_open hn hs
  have HL := Lib.hid hn
  clear hn
  obtain ⟨F, hF⟩ : ∃ F, fnd L id = F := ⟨_, rfl⟩
  have HF := Lib.hid hF
  unfold fnd at hF
  have HR : Hid (find (fun x : LN => decide (x.1 = id)) L = F) := Lib.hid hF
  rw [HF.out]
  clear hF
  go_enter Try.func44, Try.ntmps44
  go_wp2_with fail
  go_loopw [6, 5] (fun i v wx => ∃ i0 : Nat, i0 ≤ n ∧ i = .int .i64 (i0 : Int) ∧ v = .int .i64 (find (fun x : LN => decide (x.1 = id)) (L.take i0)) ∧ sat W (cel b 74 [.int .i64 nx, .int .i64 most, .slice a n c] :: slP 64 (.slice a n c) n (lvs ps).flatten :: lrw 70 ps :: H) wx) (fun i _ _ => ((n : Int) - intOf i).toNat)
  case atStart => exact ⟨0, Nat.zero_le _, rfl, rfl, by refine sb_from ?_ hs; repeat constructor⟩
  case round =>
    clear hs
    obtain ⟨i0, hi, rfl, rfl, hs⟩ := hrel
    by_cases hin : i0 < n
    · have hin2 : (i0 : Int) < (n : Int) := by omega
      obtain ⟨x, hx⟩ : ∃ x, ps[i0]? = some x := ⟨_, List.getElem?_eq_getElem (by rw [HO.out.2]; exact hin)⟩
      have hx2 : L[i0]? = some x.ln := by rw [← HO.out.1, List.getElem?_map, hx]; rfl
      obtain ⟨g, off, rfl, _, _, hr⟩ := hs.b1.slP_ptr (by omega)
      have HC : Hid (∀ w', sat W (slP 64 (.slice (some ⟨g, off, none⟩) n c) n (lvs ps).flatten :: cel b 74 [.int .i64 nx, .int .i64 most, .slice (some ⟨g, off, none⟩) n c] :: lrw 70 ps :: H) w' → w'.cell? ⟨g, off + i0 * 2, none⟩ = some (.int .i64 x.id)) := Lib.hid fun w' h => range_at (hr w' h) (lvs_at hx).1
      have HT : Hid (find (fun x : LN => decide (x.1 = id)) (L.take (i0 + 1)) = if x.id = id then (i0 : Int) else find (fun x : LN => decide (x.1 = id)) (L.take i0)) := Lib.hid (by rw [find_take_succ _ _ _ _ hx2]; simp)
      clear hx hx2 hr
      generalize hfv : find (fun x : LN => decide (x.1 = id)) (L.take i0) = fv at HT ⊢
      clear hfv
      obtain ⟨xid, xb, xl⟩ := x
      simp only at HC HT
      by_cases hq : xid = id
      · subst hq
        go_wp2_with (first | (apply ldc; exact rfl; exact rfl; exact rfl; exact HC.out _ hs.b1; kernel_rfl) | ((with_reducible refine isl ?_); first | ((with_reducible apply ld hs.b0); exact rfl; exact rfl; exact rfl; exact rfl; kernel_rfl) | ((with_reducible apply st hs.b0); exact rfl; exact rfl; exact rfl; exact rfl; exact rfl; exact rfl; kernel_rfl; exact rfl; clear hs; intro w hs) | ((with_reducible apply stc hs.b0); exact rfl; exact rfl; exact rfl; exact rfl; exact rfl; kernel_rfl; exact rfl; clear hs; intro w hs) | ((with_reducible refine wrap hs ?_); clear hs; intro w hs) | ((with_reducible refine wrapn hs ?_); clear hs; intro w hs) | ((with_reducible refine wrapd hs ?_); clear hs; intro w hs)))
        go_roundw
        case rel => exact ⟨i0 + 1, by omega, by go_num, by rw [HT.out, if_pos rfl], hs⟩
        case measure => simp [intOf]; omega
      · go_wp2_with (first | (apply ldc; exact rfl; exact rfl; exact rfl; exact HC.out _ hs.b1; kernel_rfl) | ((with_reducible refine isl ?_); first | ((with_reducible apply ld hs.b0); exact rfl; exact rfl; exact rfl; exact rfl; kernel_rfl) | ((with_reducible apply st hs.b0); exact rfl; exact rfl; exact rfl; exact rfl; exact rfl; exact rfl; kernel_rfl; exact rfl; clear hs; intro w hs) | ((with_reducible apply stc hs.b0); exact rfl; exact rfl; exact rfl; exact rfl; exact rfl; kernel_rfl; exact rfl; clear hs; intro w hs) | ((with_reducible refine wrap hs ?_); clear hs; intro w hs) | ((with_reducible refine wrapn hs ?_); clear hs; intro w hs) | ((with_reducible refine wrapd hs ?_); clear hs; intro w hs)))
        go_roundw
        case rel => exact ⟨i0 + 1, by omega, by go_num, by rw [HT.out, if_neg hq], hs⟩
        case measure => simp [intOf]; omega
    · have hge : ¬ (i0 : Int) < (n : Int) := by omega
      have HE : Hid (L.take i0 = L) := Lib.hid (List.take_of_length_le (by rw [HL.out]; omega))
      rw [HE.out, HR.out]
      clear hin
      go_wp2_with (first | ((with_reducible refine isl ?_); first | ((with_reducible apply ld hs.b0); exact rfl; exact rfl; exact rfl; exact rfl; kernel_rfl) | ((with_reducible apply st hs.b0); exact rfl; exact rfl; exact rfl; exact rfl; exact rfl; exact rfl; kernel_rfl; exact rfl; clear hs; intro w hs) | ((with_reducible apply stc hs.b0); exact rfl; exact rfl; exact rfl; exact rfl; exact rfl; kernel_rfl; exact rfl; clear hs; intro w hs) | ((with_reducible refine wrap hs ?_); clear hs; intro w hs) | ((with_reducible refine wrapn hs ?_); clear hs; intro w hs) | ((with_reducible refine wrapd hs ?_); clear hs; intro w hs)))
      go_ret
      exact ⟨rfl, ds_close HO.out.2 HO.out.1 (by refine sb_from ?_ hs; repeat constructor)⟩
end Go.Proofs.Ytbaplncifomfnaa
