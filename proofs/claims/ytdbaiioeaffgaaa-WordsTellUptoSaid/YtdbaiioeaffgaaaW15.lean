/- Law 20: Back's walk. -/
import Derived.Test.YtdbaiioeaffgaaaW11
import Derived.Test.YtdbaiioeaffgaaaW12
import Derived.Test.YtdbaiioeaffgaaaW14
namespace Go.Proofs.Ytdbaiioeaffgaaa
open Go.RowKit Go.Mem Go.Words Go.Deep
variable {W w : World} {H : List HProp}
attribute [local irreducible] World.setCell World.setCells World.alloc World.drew World.drewN Calls sat cel own blk old wpQuiet wpList tx
variable {a : Option Addr} {n cp : Nat} {L : List Cm}
theorem great_t {b : Bool} (e : decide (600 < size (cl L)) = b) (hc : CS W H a n cp L) (hz : size (cl L) ≤ 2000000) (hs : sat W H w) : Calls Try.prog 7 #[.slice a n cp] w fun e w' => e = .returned (.bool b) ∧ sat W H w' := e ▸ great7 hc hz hs
theorem back_great (hc : CS W H a n cp L) (hz : size (cl L) ≤ 2000000) (hg : 600 < size (cl L)) (hs : sat W H w) : Calls Try.prog 3 #[.slice a n cp] w fun e w' => e = .returned (.bool true) ∧ sat W H w' := by
  have HC := Lib.hid hc
  have HG := Lib.hid (show decide (600 < size (cl L)) = true by simpa using hg)
  have HZ := Lib.hid hz
  clear hc hg hz
  go_enter Try.func3, Try.ntmps3
  go_wp2_with (first | (go_at_call 7; refine (great_t HG.out HC.out HZ.out hs).mono ?_; clear hs; rintro e w ⟨rfl, hs⟩) | (go_at_call 8; refine (known8 hs).mono ?_; clear hs; rintro e w ⟨rfl, hs⟩) | ((with_reducible refine isl ?_); first | ((with_reducible refine wrap hs ?_); clear hs; intro w hs) | ((with_reducible refine wrapn hs ?_); clear hs; intro w hs) | ((with_reducible refine wrapd hs ?_); clear hs; intro w hs)))
  go_ret
  exact ⟨rfl, hs⟩
theorem coln_t {t : Nat} {x : Tx} {m : Nat} (e : x.blank.length = m) (hs : sat W (tx t x :: H) w) : Calls Try.prog 12 #[.pointer (some ⟨t, 0, none⟩)] w fun e w' => e = .returned (.int .i64 m) ∧ sat W (tx t x :: H) w' := e ▸ (cols12 hs).mono fun e w' ⟨h1, h2⟩ => ⟨h1, by rw [h2]; exact hs⟩
set_option maxHeartbeats 4000000 in
set_option maxRecDepth 8000 in
theorem back_walk (hc : CS W H a n cp L) (hz : size (cl L) ≤ 600) (hs : sat W H w) : Calls Try.prog 3 #[.slice a n cp] w fun e w' => e = .returned (.bool true) ∧ sat W H w' := by
  have hn0 := hc.len.1
  have hn : n ≤ 600 := by have := len_size (cl L); rw [List.length_map] at this; omega
  have HN := Lib.hid (show (cl L).length = n by rw [List.length_map, hn0])
  have HC := Lib.hid hc
  have HZ := Lib.hid hz
  have HG := Lib.hid (show decide (600 < size (cl L)) = false by simpa using hz)
  have HX := Lib.hid (tx_ok (cl L))
  have HB := Lib.hid (show (textOf (cl L)).blank.length = n by rw [text_blank, List.length_map, hn0])
  have hr : (textOf (cl L)).runes.length ≤ 600 := Nat.le_trans (ok_run (cl L)).hz hz
  have HBA := Lib.hid (fun i h => back_at (l := cl L) (i := i) h)
  have HPU := Lib.hid (fun k h => place_up (l := cl L) (k := k) h)
  have HPE := Lib.hid (place_end (cl L))
  have HCE := Lib.hid (col_end (cl L))
  have HZ2 : Hid (size (cl L) ≤ 2000000) := Lib.hid (by omega)
  obtain ⟨x, hx⟩ : ∃ x, textOf (cl L) = x := ⟨_, rfl⟩
  rw [hx] at HX HB hr HBA HPU HPE HCE
  have HT := Lib.hid hx
  obtain ⟨q, hq⟩ : ∃ q, x.runes.length = q := ⟨_, rfl⟩
  rw [hq] at hr HBA HPU HPE HCE
  have HQ := Lib.hid hq
  have HK1 : Hid (x.cols.length ≤ 1000) := Lib.hid (by rw [HX.out.hc, HQ.out]; omega)
  have HK2 : Hid (x.blank.length ≤ 1000) := Lib.hid (by rw [HB.out]; omega)
  clear hc hz hn0 hx hq
  go_enter Try.func3, Try.ntmps3
  go_wp2_with (first | (go_at_call 7; refine (great_t HG.out HC.out HZ2.out hs).mono ?_; clear hs; rintro e w ⟨rfl, hs⟩) | (go_at_call 9; refine (of9_t HT.out HC.out HZ.out hs).mono ?_; clear hs; rintro e w ⟨t, rfl, hs⟩) | (go_at_call 10; refine (runes_t rfl HQ.out HX.out HK1.out hs).mono ?_; clear hs; rintro e w ⟨a5, c5, rfl, hs⟩; replace hs := hs.drop) | ((with_reducible refine isl ?_); first | ((with_reducible refine wrap hs ?_); clear hs; intro w hs) | ((with_reducible refine wrapn hs ?_); clear hs; intro w hs) | ((with_reducible refine wrapd hs ?_); clear hs; intro w hs)))
  have hs := hs
  go_loopw [17] (fun i wr => ∃ k : Nat, k ≤ q ∧ i = .int .i64 (k : Int) ∧ sat W (tx t x :: H) wr) (fun i _ => ((q : Int) - intOf i).toNat)
  case atStart => exact ⟨0, Nat.zero_le _, rfl, hs⟩
  case round =>
    clear hs
    obtain ⟨k, hk, rfl, hs⟩ := hrel
    by_cases hlt : k < q
    · obtain ⟨co, pl, c, h1, h2, h3, h4, h5, h6, h7⟩ := HBA.out k hlt
      have hco : co < n := by have := (List.getElem?_eq_some_iff.1 h3).1; have := HN.out; omega
      obtain ⟨⟨mc, ca, cc0, fg, bg, fl⟩, hm, b, off, rfl, hcc⟩ := HC.out.1.getm hs.drop hco
      have hmc : mc = c := by
        rw [List.getElem?_map, hm] at h3
        exact Option.some.inj h3
      subst hmc
      have H1 := Lib.hid h1
      have H2 := Lib.hid h2
      have HCC := Lib.hid hcc
      have b4 : (mc.wide == 2) = false := beq_no h4
      have g1 : decide ((co : Int) < 0) = false := by simp
      have g2 : decide ((n : Int) ≤ (co : Int)) = false := by simp; omega
      have g4 : decide ((k : Int) < (pl : Int)) = false := by simp; omega
      have g2' : decide (n ≤ co) = false := by simp; omega
      have g4' : decide (k < pl) = false := by simp; omega
      have g5 : decide ((mc.comb.length : Int) < (k : Int) - (pl : Int)) = false := by simp; omega
      clear h1 h2 h3 h4 hcc hm
      by_cases h0 : 0 < k
      · obtain ⟨cq, hcq⟩ : ∃ cq, x.col ((k : Int) - 1) = cq := ⟨_, rfl⟩
        have h8 := h7 h0
        rw [hcq] at h8
        have H7 := Lib.hid hcq
        have g6 : decide ((0 : Int) < (k : Int)) = true := by simp; omega
        have g6' : decide (0 < k) = true := by simp; omega
        have g7' : decide (co < cq) = false := by simp; omega
        have g7 : decide ((co : Int) < (cq : Int)) = false := by simp; omega
        clear h7 hcq
        go_upto_region 9 with (first | (go_at_call 11; refine (col_t H1.out hs).mono ?_; clear hs; rintro e w ⟨rfl, hs⟩) | ((with_reducible refine isl ?_); first | ((with_reducible refine wrap hs ?_); clear hs; intro w hs) | ((with_reducible refine wrapn hs ?_); clear hs; intro w hs) | ((with_reducible refine wrapd hs ?_); clear hs; intro w hs)))
        refine region_mix [([0, 1, 2, 3, 4], [5]), ([6, 7, 8, 9, 10, 11, 12, 13, 14, 15, 16, 17, 18, 20], [19]), ([21, 22, 23, 24, 25, 26, 29, 30, 31, 32, 33, 34], [27]), ([28, 35, 36, 37, 38, 39, 40, 41, 42, 43, 45], [44])] [46, 47, 48] hs (fun _ h => h) (by kernel_rfl) (by kernel_rfl) (fun _ _ _ _ _ h => h) ?_
        simp only [segs, nths, nth, List.append_nil, List.nil_append, List.cons_append, List.map_cons, List.map_nil]
        refine seg_reads (fun _ h => h) ?_; intro X f hne hf hcl; (try simp only [Act.put, List.setIfInBounds_toArray, List.set_cons_succ, List.set_cons_zero]); (repeat (first | (apply ldcq; exact rfl; exact rfl; exact rfl; exact fun x => HCC.out _ (hf x).drop 2 _ rfl; kernel_rfl; (try simp only [Act.put, List.setIfInBounds_toArray, List.set_cons_succ, List.set_cons_zero])) | (apply ldcq; exact rfl; exact rfl; exact rfl; exact fun x => HCC.out _ (hf x).drop 1 _ rfl; kernel_rfl; (try simp only [Act.put, List.setIfInBounds_toArray, List.set_cons_succ, List.set_cons_zero])) | go_big_quiet_step (fail))); refine wpQuiet_nil ?_; clear hcl hf hne hs f X; intro w hs
        go_wp2_with (first | (go_at_call 12; refine (coln_t HB.out hs).mono ?_; clear hs; rintro e w ⟨rfl, hs⟩) | (go_at_call 13; refine (place_t H2.out HX.out HK2.out hs).mono ?_; clear hs; rintro e w ⟨rfl, hs⟩) | (go_at_call 11; refine (col_t H7.out hs).mono ?_; clear hs; rintro e w ⟨rfl, hs⟩) | ((with_reducible refine isl ?_); first | ((with_reducible refine wrap hs ?_); clear hs; intro w hs) | ((with_reducible refine wrapn hs ?_); clear hs; intro w hs) | ((with_reducible refine wrapd hs ?_); clear hs; intro w hs)))
        (first | (refine seg_on hs (by first | exact fun _ h => h | exact fun _ h => h.drop | exact fun _ h => h.drop.drop | exact fun _ h => h.drop.drop.drop) (fun _ h => h) ?_; clear hs; intro hs) | (refine seg_on hs.made (by first | exact fun _ h => h | exact fun _ h => h.drop | exact fun _ h => h.drop.drop | exact fun _ h => h.drop.drop.drop) (fun _ h => h) ?_; clear hs; intro hs) | (refine seg_on hs.drew (by first | exact fun _ h => h | exact fun _ h => h.drop | exact fun _ h => h.drop.drop | exact fun _ h => h.drop.drop.drop) (fun _ h => h) ?_; clear hs; intro hs) | (refine seg_on hs.drew.made (by first | exact fun _ h => h | exact fun _ h => h.drop | exact fun _ h => h.drop.drop | exact fun _ h => h.drop.drop.drop) (fun _ h => h) ?_; clear hs; intro hs) | (refine seg_on (hs.drewN _) (by first | exact fun _ h => h | exact fun _ h => h.drop | exact fun _ h => h.drop.drop | exact fun _ h => h.drop.drop.drop) (fun _ h => h) ?_; clear hs; intro hs))
        refine seg_reads (fun _ h => h) ?_; intro X f hne hf hcl; (try simp only [Act.put, List.setIfInBounds_toArray, List.set_cons_succ, List.set_cons_zero]); (repeat (first | (apply ldcq; exact rfl; exact rfl; exact rfl; exact fun x => HCC.out _ (hf x).drop 2 _ rfl; kernel_rfl; (try simp only [Act.put, List.setIfInBounds_toArray, List.set_cons_succ, List.set_cons_zero])) | (apply ldcq; exact rfl; exact rfl; exact rfl; exact fun x => HCC.out _ (hf x).drop 1 _ rfl; kernel_rfl; (try simp only [Act.put, List.setIfInBounds_toArray, List.set_cons_succ, List.set_cons_zero])) | go_big_quiet_step (fail))); refine wpQuiet_nil ?_; clear hcl hf hne hs f X; intro w hs
        go_wp2_with (first | (go_at_call 12; refine (coln_t HB.out hs).mono ?_; clear hs; rintro e w ⟨rfl, hs⟩) | (go_at_call 13; refine (place_t H2.out HX.out HK2.out hs).mono ?_; clear hs; rintro e w ⟨rfl, hs⟩) | (go_at_call 11; refine (col_t H7.out hs).mono ?_; clear hs; rintro e w ⟨rfl, hs⟩) | ((with_reducible refine isl ?_); first | ((with_reducible refine wrap hs ?_); clear hs; intro w hs) | ((with_reducible refine wrapn hs ?_); clear hs; intro w hs) | ((with_reducible refine wrapd hs ?_); clear hs; intro w hs)))
        (first | (refine seg_on hs (by first | exact fun _ h => h | exact fun _ h => h.drop | exact fun _ h => h.drop.drop | exact fun _ h => h.drop.drop.drop) (fun _ h => h) ?_; clear hs; intro hs) | (refine seg_on hs.made (by first | exact fun _ h => h | exact fun _ h => h.drop | exact fun _ h => h.drop.drop | exact fun _ h => h.drop.drop.drop) (fun _ h => h) ?_; clear hs; intro hs) | (refine seg_on hs.drew (by first | exact fun _ h => h | exact fun _ h => h.drop | exact fun _ h => h.drop.drop | exact fun _ h => h.drop.drop.drop) (fun _ h => h) ?_; clear hs; intro hs) | (refine seg_on hs.drew.made (by first | exact fun _ h => h | exact fun _ h => h.drop | exact fun _ h => h.drop.drop | exact fun _ h => h.drop.drop.drop) (fun _ h => h) ?_; clear hs; intro hs) | (refine seg_on (hs.drewN _) (by first | exact fun _ h => h | exact fun _ h => h.drop | exact fun _ h => h.drop.drop | exact fun _ h => h.drop.drop.drop) (fun _ h => h) ?_; clear hs; intro hs))
        refine seg_reads (fun _ h => h) ?_; intro X f hne hf hcl; (try simp only [Act.put, List.setIfInBounds_toArray, List.set_cons_succ, List.set_cons_zero]); (repeat (first | (apply ldcq; exact rfl; exact rfl; exact rfl; exact fun x => HCC.out _ (hf x).drop 2 _ rfl; kernel_rfl; (try simp only [Act.put, List.setIfInBounds_toArray, List.set_cons_succ, List.set_cons_zero])) | (apply ldcq; exact rfl; exact rfl; exact rfl; exact fun x => HCC.out _ (hf x).drop 1 _ rfl; kernel_rfl; (try simp only [Act.put, List.setIfInBounds_toArray, List.set_cons_succ, List.set_cons_zero])) | go_big_quiet_step (fail))); refine wpQuiet_nil ?_; clear hcl hf hne hs f X; intro w hs
        go_wp2_with (first | (go_at_call 12; refine (coln_t HB.out hs).mono ?_; clear hs; rintro e w ⟨rfl, hs⟩) | (go_at_call 13; refine (place_t H2.out HX.out HK2.out hs).mono ?_; clear hs; rintro e w ⟨rfl, hs⟩) | (go_at_call 11; refine (col_t H7.out hs).mono ?_; clear hs; rintro e w ⟨rfl, hs⟩) | ((with_reducible refine isl ?_); first | ((with_reducible refine wrap hs ?_); clear hs; intro w hs) | ((with_reducible refine wrapn hs ?_); clear hs; intro w hs) | ((with_reducible refine wrapd hs ?_); clear hs; intro w hs)))
        (first | (refine seg_on hs (by first | exact fun _ h => h | exact fun _ h => h.drop | exact fun _ h => h.drop.drop | exact fun _ h => h.drop.drop.drop) (fun _ h => h) ?_; clear hs; intro hs) | (refine seg_on hs.made (by first | exact fun _ h => h | exact fun _ h => h.drop | exact fun _ h => h.drop.drop | exact fun _ h => h.drop.drop.drop) (fun _ h => h) ?_; clear hs; intro hs) | (refine seg_on hs.drew (by first | exact fun _ h => h | exact fun _ h => h.drop | exact fun _ h => h.drop.drop | exact fun _ h => h.drop.drop.drop) (fun _ h => h) ?_; clear hs; intro hs) | (refine seg_on hs.drew.made (by first | exact fun _ h => h | exact fun _ h => h.drop | exact fun _ h => h.drop.drop | exact fun _ h => h.drop.drop.drop) (fun _ h => h) ?_; clear hs; intro hs) | (refine seg_on (hs.drewN _) (by first | exact fun _ h => h | exact fun _ h => h.drop | exact fun _ h => h.drop.drop | exact fun _ h => h.drop.drop.drop) (fun _ h => h) ?_; clear hs; intro hs))
        refine seg_reads (fun _ h => h) ?_; intro X f hne hf hcl; (try simp only [Act.put, List.setIfInBounds_toArray, List.set_cons_succ, List.set_cons_zero]); (repeat (first | (apply ldcq; exact rfl; exact rfl; exact rfl; exact fun x => HCC.out _ (hf x).drop 2 _ rfl; kernel_rfl; (try simp only [Act.put, List.setIfInBounds_toArray, List.set_cons_succ, List.set_cons_zero])) | (apply ldcq; exact rfl; exact rfl; exact rfl; exact fun x => HCC.out _ (hf x).drop 1 _ rfl; kernel_rfl; (try simp only [Act.put, List.setIfInBounds_toArray, List.set_cons_succ, List.set_cons_zero])) | go_big_quiet_step (fail))); refine wpQuiet_nil ?_; clear hcl hf hne hs f X; intro w hs
        go_wp2_with (first | (go_at_call 12; refine (coln_t HB.out hs).mono ?_; clear hs; rintro e w ⟨rfl, hs⟩) | (go_at_call 13; refine (place_t H2.out HX.out HK2.out hs).mono ?_; clear hs; rintro e w ⟨rfl, hs⟩) | (go_at_call 11; refine (col_t H7.out hs).mono ?_; clear hs; rintro e w ⟨rfl, hs⟩) | ((with_reducible refine isl ?_); first | ((with_reducible refine wrap hs ?_); clear hs; intro w hs) | ((with_reducible refine wrapn hs ?_); clear hs; intro w hs) | ((with_reducible refine wrapd hs ?_); clear hs; intro w hs)))
        (first | (refine seg_on hs (by first | exact fun _ h => h | exact fun _ h => h.drop | exact fun _ h => h.drop.drop | exact fun _ h => h.drop.drop.drop) (fun _ h => h) ?_; clear hs; intro hs) | (refine seg_on hs.made (by first | exact fun _ h => h | exact fun _ h => h.drop | exact fun _ h => h.drop.drop | exact fun _ h => h.drop.drop.drop) (fun _ h => h) ?_; clear hs; intro hs) | (refine seg_on hs.drew (by first | exact fun _ h => h | exact fun _ h => h.drop | exact fun _ h => h.drop.drop | exact fun _ h => h.drop.drop.drop) (fun _ h => h) ?_; clear hs; intro hs) | (refine seg_on hs.drew.made (by first | exact fun _ h => h | exact fun _ h => h.drop | exact fun _ h => h.drop.drop | exact fun _ h => h.drop.drop.drop) (fun _ h => h) ?_; clear hs; intro hs) | (refine seg_on (hs.drewN _) (by first | exact fun _ h => h | exact fun _ h => h.drop | exact fun _ h => h.drop.drop | exact fun _ h => h.drop.drop.drop) (fun _ h => h) ?_; clear hs; intro hs))
        refine seg_last (fun _ h => h) ?_; intro X f hne hf hcl; (try simp only [Act.put, List.setIfInBounds_toArray, List.set_cons_succ, List.set_cons_zero]); (repeat (first | (apply ldcq; exact rfl; exact rfl; exact rfl; exact fun x => HCC.out _ (hf x).drop 2 _ rfl; kernel_rfl; (try simp only [Act.put, List.setIfInBounds_toArray, List.set_cons_succ, List.set_cons_zero])) | (apply ldcq; exact rfl; exact rfl; exact rfl; exact fun x => HCC.out _ (hf x).drop 1 _ rfl; kernel_rfl; (try simp only [Act.put, List.setIfInBounds_toArray, List.set_cons_succ, List.set_cons_zero])) | go_big_quiet_step (fail))); refine wpQuiet_nil ?_; clear hcl hf hne hs f X; intro w hs
        go_wp2
        go_roundw
        case rel => exact ⟨k + 1, hlt, by go_num, hs⟩
        case measure => simp [intOf]; omega
      · obtain rfl : k = 0 := by omega
        obtain rfl : pl = 0 := by omega
        have g8 : decide ((mc.comb.length : Int) < 0) = false := by simp
        clear h7
        go_upto_region 9 with (first | (go_at_call 11; refine (col_t H1.out hs).mono ?_; clear hs; rintro e w ⟨rfl, hs⟩) | ((with_reducible refine isl ?_); first | ((with_reducible refine wrap hs ?_); clear hs; intro w hs) | ((with_reducible refine wrapn hs ?_); clear hs; intro w hs) | ((with_reducible refine wrapd hs ?_); clear hs; intro w hs)))
        refine region_mix [([0, 1, 2, 3, 4], [5]), ([6, 7, 8, 9, 10, 11, 12, 13, 14, 15, 16, 17, 18, 20], [19]), ([21, 22, 23, 24, 25, 26, 29, 30, 31, 32, 33, 34], [27]), ([28, 35, 36, 37, 38, 39, 40, 41, 42, 43, 45], [44])] [46, 47, 48] hs (fun _ h => h) (by kernel_rfl) (by kernel_rfl) (fun _ _ _ _ _ h => h) ?_
        simp only [segs, nths, nth, List.append_nil, List.nil_append, List.cons_append, List.map_cons, List.map_nil]
        refine seg_reads (fun _ h => h) ?_; intro X f hne hf hcl; (try simp only [Act.put, List.setIfInBounds_toArray, List.set_cons_succ, List.set_cons_zero]); (repeat (first | (apply ldcq; exact rfl; exact rfl; exact rfl; exact fun x => HCC.out _ (hf x).drop 2 _ rfl; kernel_rfl; (try simp only [Act.put, List.setIfInBounds_toArray, List.set_cons_succ, List.set_cons_zero])) | (apply ldcq; exact rfl; exact rfl; exact rfl; exact fun x => HCC.out _ (hf x).drop 1 _ rfl; kernel_rfl; (try simp only [Act.put, List.setIfInBounds_toArray, List.set_cons_succ, List.set_cons_zero])) | go_big_quiet_step (fail))); refine wpQuiet_nil ?_; clear hcl hf hne hs f X; intro w hs
        go_wp2_with (first | (go_at_call 12; refine (coln_t HB.out hs).mono ?_; clear hs; rintro e w ⟨rfl, hs⟩) | (go_at_call 13; refine (place_t H2.out HX.out HK2.out hs).mono ?_; clear hs; rintro e w ⟨rfl, hs⟩) | ((with_reducible refine isl ?_); first | ((with_reducible refine wrap hs ?_); clear hs; intro w hs) | ((with_reducible refine wrapn hs ?_); clear hs; intro w hs) | ((with_reducible refine wrapd hs ?_); clear hs; intro w hs)))
        (first | (refine seg_on hs (by first | exact fun _ h => h | exact fun _ h => h.drop | exact fun _ h => h.drop.drop | exact fun _ h => h.drop.drop.drop) (fun _ h => h) ?_; clear hs; intro hs) | (refine seg_on hs.made (by first | exact fun _ h => h | exact fun _ h => h.drop | exact fun _ h => h.drop.drop | exact fun _ h => h.drop.drop.drop) (fun _ h => h) ?_; clear hs; intro hs) | (refine seg_on hs.drew (by first | exact fun _ h => h | exact fun _ h => h.drop | exact fun _ h => h.drop.drop | exact fun _ h => h.drop.drop.drop) (fun _ h => h) ?_; clear hs; intro hs) | (refine seg_on hs.drew.made (by first | exact fun _ h => h | exact fun _ h => h.drop | exact fun _ h => h.drop.drop | exact fun _ h => h.drop.drop.drop) (fun _ h => h) ?_; clear hs; intro hs) | (refine seg_on (hs.drewN _) (by first | exact fun _ h => h | exact fun _ h => h.drop | exact fun _ h => h.drop.drop | exact fun _ h => h.drop.drop.drop) (fun _ h => h) ?_; clear hs; intro hs))
        refine seg_reads (fun _ h => h) ?_; intro X f hne hf hcl; (try simp only [Act.put, List.setIfInBounds_toArray, List.set_cons_succ, List.set_cons_zero]); (repeat (first | (apply ldcq; exact rfl; exact rfl; exact rfl; exact fun x => HCC.out _ (hf x).drop 2 _ rfl; kernel_rfl; (try simp only [Act.put, List.setIfInBounds_toArray, List.set_cons_succ, List.set_cons_zero])) | (apply ldcq; exact rfl; exact rfl; exact rfl; exact fun x => HCC.out _ (hf x).drop 1 _ rfl; kernel_rfl; (try simp only [Act.put, List.setIfInBounds_toArray, List.set_cons_succ, List.set_cons_zero])) | go_big_quiet_step (fail))); refine wpQuiet_nil ?_; clear hcl hf hne hs f X; intro w hs
        go_wp2_with (first | (go_at_call 12; refine (coln_t HB.out hs).mono ?_; clear hs; rintro e w ⟨rfl, hs⟩) | (go_at_call 13; refine (place_t H2.out HX.out HK2.out hs).mono ?_; clear hs; rintro e w ⟨rfl, hs⟩) | ((with_reducible refine isl ?_); first | ((with_reducible refine wrap hs ?_); clear hs; intro w hs) | ((with_reducible refine wrapn hs ?_); clear hs; intro w hs) | ((with_reducible refine wrapd hs ?_); clear hs; intro w hs)))
        (first | (refine seg_on hs (by first | exact fun _ h => h | exact fun _ h => h.drop | exact fun _ h => h.drop.drop | exact fun _ h => h.drop.drop.drop) (fun _ h => h) ?_; clear hs; intro hs) | (refine seg_on hs.made (by first | exact fun _ h => h | exact fun _ h => h.drop | exact fun _ h => h.drop.drop | exact fun _ h => h.drop.drop.drop) (fun _ h => h) ?_; clear hs; intro hs) | (refine seg_on hs.drew (by first | exact fun _ h => h | exact fun _ h => h.drop | exact fun _ h => h.drop.drop | exact fun _ h => h.drop.drop.drop) (fun _ h => h) ?_; clear hs; intro hs) | (refine seg_on hs.drew.made (by first | exact fun _ h => h | exact fun _ h => h.drop | exact fun _ h => h.drop.drop | exact fun _ h => h.drop.drop.drop) (fun _ h => h) ?_; clear hs; intro hs) | (refine seg_on (hs.drewN _) (by first | exact fun _ h => h | exact fun _ h => h.drop | exact fun _ h => h.drop.drop | exact fun _ h => h.drop.drop.drop) (fun _ h => h) ?_; clear hs; intro hs))
        refine seg_reads (fun _ h => h) ?_; intro X f hne hf hcl; (try simp only [Act.put, List.setIfInBounds_toArray, List.set_cons_succ, List.set_cons_zero]); (repeat (first | (apply ldcq; exact rfl; exact rfl; exact rfl; exact fun x => HCC.out _ (hf x).drop 2 _ rfl; kernel_rfl; (try simp only [Act.put, List.setIfInBounds_toArray, List.set_cons_succ, List.set_cons_zero])) | (apply ldcq; exact rfl; exact rfl; exact rfl; exact fun x => HCC.out _ (hf x).drop 1 _ rfl; kernel_rfl; (try simp only [Act.put, List.setIfInBounds_toArray, List.set_cons_succ, List.set_cons_zero])) | go_big_quiet_step (fail))); refine wpQuiet_nil ?_; clear hcl hf hne hs f X; intro w hs
        go_wp2_with (first | (go_at_call 12; refine (coln_t HB.out hs).mono ?_; clear hs; rintro e w ⟨rfl, hs⟩) | (go_at_call 13; refine (place_t H2.out HX.out HK2.out hs).mono ?_; clear hs; rintro e w ⟨rfl, hs⟩) | ((with_reducible refine isl ?_); first | ((with_reducible refine wrap hs ?_); clear hs; intro w hs) | ((with_reducible refine wrapn hs ?_); clear hs; intro w hs) | ((with_reducible refine wrapd hs ?_); clear hs; intro w hs)))
        (first | (refine seg_on hs (by first | exact fun _ h => h | exact fun _ h => h.drop | exact fun _ h => h.drop.drop | exact fun _ h => h.drop.drop.drop) (fun _ h => h) ?_; clear hs; intro hs) | (refine seg_on hs.made (by first | exact fun _ h => h | exact fun _ h => h.drop | exact fun _ h => h.drop.drop | exact fun _ h => h.drop.drop.drop) (fun _ h => h) ?_; clear hs; intro hs) | (refine seg_on hs.drew (by first | exact fun _ h => h | exact fun _ h => h.drop | exact fun _ h => h.drop.drop | exact fun _ h => h.drop.drop.drop) (fun _ h => h) ?_; clear hs; intro hs) | (refine seg_on hs.drew.made (by first | exact fun _ h => h | exact fun _ h => h.drop | exact fun _ h => h.drop.drop | exact fun _ h => h.drop.drop.drop) (fun _ h => h) ?_; clear hs; intro hs) | (refine seg_on (hs.drewN _) (by first | exact fun _ h => h | exact fun _ h => h.drop | exact fun _ h => h.drop.drop | exact fun _ h => h.drop.drop.drop) (fun _ h => h) ?_; clear hs; intro hs))
        refine seg_reads (fun _ h => h) ?_; intro X f hne hf hcl; (try simp only [Act.put, List.setIfInBounds_toArray, List.set_cons_succ, List.set_cons_zero]); (repeat (first | (apply ldcq; exact rfl; exact rfl; exact rfl; exact fun x => HCC.out _ (hf x).drop 2 _ rfl; kernel_rfl; (try simp only [Act.put, List.setIfInBounds_toArray, List.set_cons_succ, List.set_cons_zero])) | (apply ldcq; exact rfl; exact rfl; exact rfl; exact fun x => HCC.out _ (hf x).drop 1 _ rfl; kernel_rfl; (try simp only [Act.put, List.setIfInBounds_toArray, List.set_cons_succ, List.set_cons_zero])) | go_big_quiet_step (fail))); refine wpQuiet_nil ?_; clear hcl hf hne hs f X; intro w hs
        go_wp2_with (first | (go_at_call 12; refine (coln_t HB.out hs).mono ?_; clear hs; rintro e w ⟨rfl, hs⟩) | (go_at_call 13; refine (place_t H2.out HX.out HK2.out hs).mono ?_; clear hs; rintro e w ⟨rfl, hs⟩) | ((with_reducible refine isl ?_); first | ((with_reducible refine wrap hs ?_); clear hs; intro w hs) | ((with_reducible refine wrapn hs ?_); clear hs; intro w hs) | ((with_reducible refine wrapd hs ?_); clear hs; intro w hs)))
        (first | (refine seg_on hs (by first | exact fun _ h => h | exact fun _ h => h.drop | exact fun _ h => h.drop.drop | exact fun _ h => h.drop.drop.drop) (fun _ h => h) ?_; clear hs; intro hs) | (refine seg_on hs.made (by first | exact fun _ h => h | exact fun _ h => h.drop | exact fun _ h => h.drop.drop | exact fun _ h => h.drop.drop.drop) (fun _ h => h) ?_; clear hs; intro hs) | (refine seg_on hs.drew (by first | exact fun _ h => h | exact fun _ h => h.drop | exact fun _ h => h.drop.drop | exact fun _ h => h.drop.drop.drop) (fun _ h => h) ?_; clear hs; intro hs) | (refine seg_on hs.drew.made (by first | exact fun _ h => h | exact fun _ h => h.drop | exact fun _ h => h.drop.drop | exact fun _ h => h.drop.drop.drop) (fun _ h => h) ?_; clear hs; intro hs) | (refine seg_on (hs.drewN _) (by first | exact fun _ h => h | exact fun _ h => h.drop | exact fun _ h => h.drop.drop | exact fun _ h => h.drop.drop.drop) (fun _ h => h) ?_; clear hs; intro hs))
        refine seg_last (fun _ h => h) ?_; intro X f hne hf hcl; (try simp only [Act.put, List.setIfInBounds_toArray, List.set_cons_succ, List.set_cons_zero]); (repeat (first | (apply ldcq; exact rfl; exact rfl; exact rfl; exact fun x => HCC.out _ (hf x).drop 2 _ rfl; kernel_rfl; (try simp only [Act.put, List.setIfInBounds_toArray, List.set_cons_succ, List.set_cons_zero])) | (apply ldcq; exact rfl; exact rfl; exact rfl; exact fun x => HCC.out _ (hf x).drop 1 _ rfl; kernel_rfl; (try simp only [Act.put, List.setIfInBounds_toArray, List.set_cons_succ, List.set_cons_zero])) | go_big_quiet_step (fail))); refine wpQuiet_nil ?_; clear hcl hf hne hs f X; intro w hs
        go_wp2
        go_roundw
        case rel => exact ⟨1, hlt, by go_num, hs⟩
        case measure => simp [intOf]; omega
    · obtain rfl : k = q := by omega
      go_wp2_with (first | (go_at_call 12; refine (coln_t HB.out hs).mono ?_; clear hs; rintro e w ⟨rfl, hs⟩) | ((with_reducible refine isl ?_); first | ((with_reducible refine wrap hs ?_); clear hs; intro w hs) | ((with_reducible refine wrapn hs ?_); clear hs; intro w hs) | ((with_reducible refine wrapd hs ?_); clear hs; intro w hs)))
      have hs := hs
      go_loopw [75] (fun i wr => ∃ k : Nat, k ≤ n ∧ i = .int .i64 (k : Int) ∧ sat W (tx t x :: H) wr) (fun i _ => ((n : Int) - intOf i).toNat)
      case atStart => exact ⟨0, Nat.zero_le _, rfl, hs⟩
      case round =>
        clear hs
        obtain ⟨j, hj, rfl, hs⟩ := hrel
        by_cases hjl : j < n
        · obtain ⟨h1, h2⟩ := HPU.out j (by rw [HN.out]; exact hjl)
          obtain ⟨p1, hp1⟩ : ∃ p1, x.place j = p1 := ⟨_, rfl⟩
          obtain ⟨p2, hp2⟩ : ∃ p2, x.place ((j : Int) + 1) = p2 := ⟨_, rfl⟩
          rw [hp1] at h1 h2
          rw [hp2] at h1
          have H1 := Lib.hid hp1
          have H2 := Lib.hid hp2
          have g1 : decide ((p2 : Int) < (p1 : Int)) = false := by simp; omega
          have g2 : decide ((p1 : Int) < 0) = false := by simp
          have g1' : decide (p2 < p1) = false := by simp; omega
          have g3' : decide (k < p1) = false := by simp; omega
          have g3 : decide ((k : Int) < (p1 : Int)) = false := by simp; omega
          clear hp1 hp2
          go_wp2_with (first | (go_at_call 13; refine (place_t H1.out HX.out HK2.out hs).mono ?_; clear hs; rintro e w ⟨rfl, hs⟩) | (go_at_call 13; refine (place_t H2.out HX.out HK2.out hs).mono ?_; clear hs; rintro e w ⟨rfl, hs⟩) | ((with_reducible refine isl ?_); first | ((with_reducible refine wrap hs ?_); clear hs; intro w hs) | ((with_reducible refine wrapn hs ?_); clear hs; intro w hs) | ((with_reducible refine wrapd hs ?_); clear hs; intro w hs)))
          go_roundw
          case rel => exact ⟨j + 1, hjl, by go_num, hs⟩
          case measure => simp [intOf]; omega
        · obtain rfl : j = n := by omega
          have HE1 : Hid (x.place j = k) := Lib.hid (by rw [← HN.out]; exact HPE.out)
          have HE2 : Hid (x.col k = j) := Lib.hid (by rw [← HN.out]; exact HCE.out)
          go_wp2_with (first | (go_at_call 12; refine (coln_t HB.out hs).mono ?_; clear hs; rintro e w ⟨rfl, hs⟩) | (go_at_call 13; refine (place_t HE1.out HX.out HK2.out hs).mono ?_; clear hs; rintro e w ⟨rfl, hs⟩) | (go_at_call 11; refine (col_t HE2.out hs).mono ?_; clear hs; rintro e w ⟨rfl, hs⟩) | (go_at_call 8; refine (known8 hs).mono ?_; clear hs; rintro e w ⟨rfl, hs⟩) | ((with_reducible refine isl ?_); first | ((with_reducible refine wrap hs ?_); clear hs; intro w hs) | ((with_reducible refine wrapn hs ?_); clear hs; intro w hs) | ((with_reducible refine wrapd hs ?_); clear hs; intro w hs)))
          go_ret
          exact ⟨rfl, hs.drop⟩
end Go.Proofs.Ytdbaiioeaffgaaa
