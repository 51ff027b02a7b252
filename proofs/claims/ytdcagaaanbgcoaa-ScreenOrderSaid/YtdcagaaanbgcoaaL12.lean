/- Law 8: the document's Copy, Fresh, Push. -/
import Derived.Test.YtdcagaaanbgcoaaSf
import Derived.Test.YtdcagaaanbgcoaaL6
namespace Go.Proofs.Ytdcagaaanbgcoaa
open Go.RowKit Go.Mem Go.Cells Go.Lines
variable {W w : World} {H : List HProp}
theorem rws_snoc (ys : List PC) (y : PC) : (rws ys).flatten ++ pcV y = (rws (ys ++ [y])).flatten := by
  rw [rws_app, List.flatten_append]
  unfold rws
  simp
attribute [local irreducible] rowTy oneTy World.setCell World.setCells World.alloc World.drew World.drewN Calls sat cel own blk old wpQuiet wpList cmb cmb1 rwP cls rws wi wh fst_ World.rangeAt lrw lnP stP lsP dsP lvs
theorem rcopy38 {b n : Nat} {l : List C} (hn : l.length = n) (h0 : 0 < n) (h512 : n ≤ 1000) (h4 : ∀ c ∈ l, c.comb.length ≤ 4) (hs : sat W (rwP 100 b l :: H) w) :
    Calls Try.prog 87 #[.pointer (some ⟨b, 0, none⟩)] w fun e w' => ∃ b', e = .returned (.pointer (some ⟨b', 0, none⟩)) ∧ sat W (rwP 100 b' l :: rwP 100 b l :: H) w' := by
  obtain ⟨ps, a, p, hps, hs⟩ := rw_open hn hs
  have hpn : ps.length = n := by rw [← hn, ← hps, List.length_map]
  obtain ⟨g, rfl⟩ := own_ptr h0 hs.b1
  have HP := Lib.hid (And.intro hpn hps)
  have H4 := Lib.hid h4
  have HN := Lib.hid hn
  clear hn hps hpn h4
  go_enter Try.func87, Try.ntmps87
  go_wp2_with (fail)
  have hs1 := hs.made (T := 100) (l := [.slice none 0 0])
  clear hs
  generalize World.alloc w _ = w1 at hs1 ⊢
  generalize w.heap.size = zc at hs1 ⊢
  have hs := cmb_nil (hs1.own_nil 110 6)
  clear hs1
  go_loopw [4] (fun i wr => ∃ (k : Nat) (ys : List PC) (a5 : Option Addr) (p5 : Nat), k ≤ n ∧ i = .int .i64 (k : Int) ∧ Hid (ys.length = k ∧ ys.map (·.c) = l.take k) ∧ sat W (own 110 6 (.slice a5 k p5) k (rws ys).flatten :: cmb ys :: cel zc 100 [.slice a5 k p5] :: cel b 100 [.slice (some ⟨g, 0, none⟩) n p] :: own 110 6 (.slice (some ⟨g, 0, none⟩) n p) n (rws ps).flatten :: cmb ps :: H) wr) (fun i _ => ((n : Int) - intOf i).toNat)
  case atStart => exact ⟨0, [], none, 0, Nat.zero_le _, rfl, Lib.hid ⟨rfl, rfl⟩, by
    have e : (rws []).flatten = [] := by unfold rws; rfl
    rw [e]
    refine sb_from ?_ hs; repeat constructor⟩
  case round =>
    clear hs
    obtain ⟨k, ys, a5, p5, hk, rfl, HY, hs⟩ := hrel
    by_cases hkn : k < n
    · have hkn2 : (k : Int) < (n : Int) := by omega
      obtain ⟨x, hx⟩ : ∃ x, ps[k]? = some x := ⟨_, List.getElem?_eq_getElem (by rw [HP.out.1]; omega)⟩
      have hlx : l[k]? = some x.c := by rw [← HP.out.2, List.getElem?_map, hx]; rfl
      have HX := Lib.hid (rws_get hx)
      have HX2 := Lib.hid hx
      have HXL := Lib.hid hlx
      have h4x : x.c.comb.length ≤ 4 := H4.out x.c (List.mem_of_getElem? hlx)
      have HAP : Hid (∀ y : PC, (rws ys).flatten ++ pcV y = (rws (ys ++ [y])).flatten) := Lib.hid fun y => rws_snoc ys y
      clear hx hlx
      go_upto_region 5 with (((with_reducible refine isl ?_); first | ((with_reducible apply ldx); exact rfl; exact rfl; exact rfl; (exact hs.b3); exact rfl; kernel_rfl)))
      refine L_begin 17 17 [cel zc 100 [.slice a5 k p5], cel b 100 [.slice (some ⟨g, 0, none⟩) n p], own 110 6 (.slice (some ⟨g, 0, none⟩) n p) n (rws ps).flatten] [cel zc 100 [.slice a5 k p5], cel b 100 [.slice (some ⟨g, 0, none⟩) n p], own 110 6 (.slice (some ⟨g, 0, none⟩) n p) n (rws ps).flatten] hs (fun _ h => by (refine sb_from ?_ h; repeat constructor)) (fun _ h => by (refine sb_from ?_ h; repeat constructor)) (by kernel_rfl) ?_; clear hs; intro w hs hd
      refine L_reads2 [0, 1, 2, 3, 4, 5, 6, 7, 8, 9, 10, 11] #[true, true, true, true, true, true, true, true, true, true, true, true, false, false, false, false, false, false] (fuel := 6) hd (by kernel_rfl) (fun _ _ _ _ _ h => h) ?_; clear hd; intro X f hne hf hcl hd; simp only [nths, nth, List.append_nil, List.nil_append, List.cons_append]; (try simp only [Act.put, List.setIfInBounds_toArray, List.set_cons_succ, List.set_cons_zero]); (repeat ((first | ((with_reducible apply ldorq (fun x => (hf x).b2)); exact rfl; exact rfl; exact rfl; exact HX.out; exact rws6 _; exact row41) | ((with_reducible apply ldqx); exact rfl; exact rfl; exact rfl; (first | exact fun x => (hf x).b0 | exact fun x => (hf x).b1); exact rfl; kernel_rfl) | go_big_quiet_step (fail)); (try simp only [Act.put, List.setIfInBounds_toArray, List.set_cons_succ, List.set_cons_zero]))); refine wpQuiet_nil ?_; clear hcl hf hne f X
      refine L_each [12] (by kernel_rfl) ⟨?_, trivial⟩
      simp only [nth]
      go_wp2_with (go_at_call 94; refine (own53_at h4x HX2.out (by (apply sk_from (hs := hs); repeat constructor))).mono ?_; clear hs; rintro e w ⟨y, rfl, hyc, hs⟩; replace hyc := Lib.hid hyc)
      (refine on_now hs ?_); clear hs; intro hs
      refine L_on [cel zc 100 [.slice a5 k p5], cel b 100 [.slice (some ⟨g, 0, none⟩) n p], own 110 6 (.slice (some ⟨g, 0, none⟩) n p) n (rws ps).flatten] [cel zc 100 [.slice a5 k p5], cel b 100 [.slice (some ⟨g, 0, none⟩) n p], own 110 6 (.slice (some ⟨g, 0, none⟩) n p) n (rws ps).flatten] #[true, true, true, true, true, true, true, true, true, true, true, true, true, false, false, false, false, false] (fuel := 5) hs (by kernel_rfl) (fun _ h => h) (fun _ h => h) (fun _ => by (refine sb_from ?_ hs; repeat constructor)) (fun _ => by (refine sb_from ?_ hs; repeat constructor)) ?_; clear hd hs; intro hd hs
      refine L_each [13] (by kernel_rfl) ⟨?_, trivial⟩
      simp only [nth]
      go_wp2_with (fail)
      (refine on_now hs.made ?_); clear hs; intro hs
      refine L_on [cel zc 100 [.slice a5 k p5], cel b 100 [.slice (some ⟨g, 0, none⟩) n p], own 110 6 (.slice (some ⟨g, 0, none⟩) n p) n (rws ps).flatten] [cel zc 100 [.slice a5 k p5], cel b 100 [.slice (some ⟨g, 0, none⟩) n p], own 110 6 (.slice (some ⟨g, 0, none⟩) n p) n (rws ps).flatten] #[true, true, true, true, true, true, true, true, true, true, true, true, true, true, false, false, false, false] (fuel := 4) hs (by kernel_rfl) (fun _ h => h) (fun _ h => h) (fun _ => by (refine sb_from ?_ hs; repeat constructor)) (fun _ => by (refine sb_from ?_ hs; repeat constructor)) ?_; clear hd hs; intro hd hs
      refine L_each [14] (by kernel_rfl) ⟨?_, trivial⟩
      simp only [nth]
      go_wp2_with (((with_reducible apply app hs.b3); exact rfl; exact rfl; exact rfl; exact rfl; exact slty37; exact rfl; exact rfl; decide; omega; (unfold maxLen; omega); clear hs; intro a9 c9 w hs; rw [HAP.out y] at hs))
      (refine on_now hs ?_); clear hs; intro hs
      refine L_on [cel zc 100 [.slice a5 k p5], cel b 100 [.slice (some ⟨g, 0, none⟩) n p], own 110 6 (.slice (some ⟨g, 0, none⟩) n p) n (rws ps).flatten] [cel zc 100 [.slice a5 k p5], cel b 100 [.slice (some ⟨g, 0, none⟩) n p], own 110 6 (.slice (some ⟨g, 0, none⟩) n p) n (rws ps).flatten] #[true, true, true, true, true, true, true, true, true, true, true, true, true, true, true, false, false, false] (fuel := 3) hs (by kernel_rfl) (fun _ h => h) (fun _ h => h) (fun _ => by (refine sb_from ?_ hs; repeat constructor)) (fun _ => by (refine sb_from ?_ hs; repeat constructor)) ?_; clear hd hs; intro hd hs
      refine L_each [15] (by kernel_rfl) ⟨?_, trivial⟩
      simp only [nth]
      go_wp2_with (fail)
      (refine on_now hs ?_); clear hs; intro hs
      refine L_on [cel zc 100 [.slice a5 k p5], cel b 100 [.slice (some ⟨g, 0, none⟩) n p], own 110 6 (.slice (some ⟨g, 0, none⟩) n p) n (rws ps).flatten] [cel zc 100 [.slice a5 k p5], cel b 100 [.slice (some ⟨g, 0, none⟩) n p], own 110 6 (.slice (some ⟨g, 0, none⟩) n p) n (rws ps).flatten] #[true, true, true, true, true, true, true, true, true, true, true, true, true, true, true, true, false, false] (fuel := 2) hs (by kernel_rfl) (fun _ h => h) (fun _ h => h) (fun _ => by (refine sb_from ?_ hs; repeat constructor)) (fun _ => by (refine sb_from ?_ hs; repeat constructor)) ?_; clear hd hs; intro hd hs
      refine L_reads2 [16] #[true, true, true, true, true, true, true, true, true, true, true, true, true, true, true, true, true, false] (fuel := 1) hd (by kernel_rfl) (fun _ _ _ _ _ h => h) ?_; clear hd; intro X f hne hf hcl hd; simp only [nths, nth, List.append_nil, List.nil_append, List.cons_append]; (try simp only [Act.put, List.setIfInBounds_toArray, List.set_cons_succ, List.set_cons_zero]); (repeat ((go_big_quiet_step (fail)); (try simp only [Act.put, List.setIfInBounds_toArray, List.set_cons_succ, List.set_cons_zero]))); refine wpQuiet_nil ?_; clear hcl hf hne f X
      refine L_each [17] (by kernel_rfl) ⟨?_, trivial⟩
      simp only [nth]
      go_wp2_with (((with_reducible refine isl ?_); first | ((with_reducible apply stx); exact rfl; exact rfl; exact rfl; (exact hs.b4); exact rfl; exact rfl; exact rfl; kernel_rfl; exact rfl; clear hs; intro w hs)))
      (refine on_now hs ?_); clear hs; intro hs
      refine L_on [cel zc 100 [.slice a5 k p5], cel b 100 [.slice (some ⟨g, 0, none⟩) n p], own 110 6 (.slice (some ⟨g, 0, none⟩) n p) n (rws ps).flatten] [cel zc 100 [.slice a5 k p5], cel b 100 [.slice (some ⟨g, 0, none⟩) n p], own 110 6 (.slice (some ⟨g, 0, none⟩) n p) n (rws ps).flatten] #[true, true, true, true, true, true, true, true, true, true, true, true, true, true, true, true, true, true] (fuel := 0) hs (by kernel_rfl) (fun _ h => h) (fun _ h => h) (fun e => absurd e (by decide)) (fun e => absurd e (by decide)) ?_; clear hd hs; intro hd hs
      refine L_done (by kernel_rfl) ?_; clear hd
      go_wp2_with fail
      go_roundw
      case rel =>
        refine ⟨k + 1, ys ++ [y], some ⟨a9, 0, none⟩, c9, by omega, by go_num, Lib.hid ⟨by rw [List.length_append, HY.out.1]; rfl, by rw [List.map_append, HY.out.2, List.take_add_one, HXL.out]; simp [hyc.out]⟩, ?_⟩
        have h8 := cmb_nil hs
        have h9 := cmb_mk (x := y) (l := []) (by refine sb_from ?_ h8; repeat constructor : sat W (cmb1 y :: cmb [] :: cmb ys :: own 110 6 (.slice (some ⟨a9, 0, none⟩) (k + 1) c9) (k + 1) (rws (ys ++ [y])).flatten :: cel zc 100 [.slice (some ⟨a9, 0, none⟩) (k + 1) c9] :: cel b 100 [.slice (some ⟨g, 0, none⟩) n p] :: own 110 6 (.slice (some ⟨g, 0, none⟩) n p) n (rws ps).flatten :: cmb ps :: H) w)
        have h10 := cmb_app h9.b1
        refine sb_from ?_ h10; repeat constructor
      case measure => simp [intOf]; omega
    · have hge : ¬ (k : Int) < (n : Int) := by omega
      obtain rfl : k = n := by omega
      have HE : Hid (ys.map (·.c) = l) := Lib.hid (by rw [HY.out.2, List.take_of_length_le (by rw [HN.out]; exact Nat.le_refl _)])
      clear hkn
      go_wp2_with (((with_reducible refine isl ?_); first | ((with_reducible apply ldx); exact rfl; exact rfl; exact rfl; (exact hs.b3); exact rfl; kernel_rfl)))
      go_ret
      have h6 : sat W (cel b 100 [.slice (some ⟨g, 0, none⟩) k p] :: own 110 6 (.slice (some ⟨g, 0, none⟩) k p) k (rws ps).flatten :: cmb ps :: own 110 6 (.slice a5 k p5) k (rws ys).flatten :: cmb ys :: cel zc 100 [.slice a5 k p5] :: H) wr := by refine sb_from ?_ hs; repeat constructor
      have h7 := rw_close HP.out.1 h6
      rw [HP.out.2] at h7
      have h8 := rw_close (T := 100) (b := zc) HY.out.1 (by refine sb_from ?_ h7; repeat constructor : sat W (cel zc 100 [.slice a5 k p5] :: own 110 6 (.slice a5 k p5) k (rws ys).flatten :: cmb ys :: rwP 100 b l :: H) wr)
      rw [HE.out] at h8
      exact ⟨zc, rfl, h8⟩
theorem rfresh20 {b most n : Nat} {nx : Int} {L : List LN} {a : At} (h0 : 1 ≤ n) (h5 : n ≤ 512) (h : 0 < nx) (hb : nx ≤ 1000000) (hs : sat W (dsP b nx most L :: H) w) :
    Calls Try.prog 69 #[.pointer (some ⟨b, 0, none⟩), .int .i64 (n : Int), aV a] w fun e w' => ∃ b2, e = .returned (.tuple #[.agg #[.int .i64 nx, .pointer (some ⟨b2, 0, none⟩)], .int .i64 0]) ∧ sat W (rwP 100 b2 (eraseG (List.replicate n (bC At.z)) 0 n a) :: dsP b (nx + 1) most L :: H) w' := by
  obtain ⟨m, hm⟩ : ∃ m, L.length = m := ⟨_, rfl⟩
  obtain ⟨ps, a2, p, HO, hs⟩ := ds_open hm hs
  have HR : Hid ((List.replicate n (bC At.z)).length = n) := Lib.hid (List.length_replicate ..)
  have HE := Lib.hid (erase_eq (Ok.blanks n At.z) 0 n a).1
  have HMY : Hid (decide (1 ≤ (n : Int) ∧ (n : Int) ≤ 512) = true) := Lib.hid (decide_eq_true (by omega))
  rw [HE.out]
  obtain ⟨fg, bg, fl⟩ := a
  clear hm
  go_enter Try.func69, Try.ntmps69
  go_wp2_with (first | (go_at_call 33; refine (may19 (by (apply sk_from (hs := hs); repeat constructor))).mono ?_; clear hs; rintro e w ⟨rfl, hs⟩; rw [HMY.out]) | (go_at_call 84; refine (rnew9 h5 (by (apply sk_from (hs := hs); repeat constructor))).mono ?_; clear hs; rintro e w ⟨b2, rfl, hs⟩) | (go_at_call 85; refine (erase35 (at_ := ⟨fg, bg, fl⟩) HR.out (by omega) (by omega) (by (apply sk_from (hs := hs); repeat constructor))).mono ?_; clear hs; rintro e w ⟨rfl, hs⟩) | ((with_reducible refine isl ?_); first | ((with_reducible apply stswx); exact rfl; exact rfl; exact rfl; (first | exact hs.b2 | exact hs.b3); exact rfl; exact row64; exact rfl; exact rfl; exact rfl; clear hs; intro w hs) | ((with_reducible apply ldsx 3); exact rfl; exact rfl; exact rfl; (first | exact hs.b0 | exact hs.b2 | exact hs.b3); exact row33; exact rfl; exact rfl) | ((with_reducible apply ldx); exact rfl; exact rfl; exact rfl; (first | exact hs.b0 | exact hs.b3); exact rfl; kernel_rfl) | ((with_reducible apply stx); exact rfl; exact rfl; exact rfl; (exact hs.b3); exact rfl; exact rfl; exact rfl; kernel_rfl; exact rfl; clear hs; intro w hs) | ((with_reducible refine wrap hs ?_); clear hs; (first | (have _t := z4; clear _t; generalize w.heap.size = z5) | generalize w.heap.size = z4); intro w hs)))
  (refine ⟨rfl, _, results_ct hs.b0 rfl rfl row64, ?_⟩)
  exact ⟨b2, rfl, (ds_close HO.out.2 HO.out.1 (by refine sb_from ?_ hs; repeat constructor : sat W (cel b 88 [.int .i64 (nx + 1), .int .i64 most, .slice a2 m p] :: slP 93 (.slice a2 m p) m (lvs ps).flatten :: lrw 100 ps :: rwP 100 b2 (eraseR (List.replicate n (bC At.z)) 0 n ⟨fg, bg, fl⟩) :: H) w)).b1⟩
theorem rfresh20_no {b most : Nat} {n nx : Int} {L : List LN} {a : At} (h0 : ¬ (1 ≤ n ∧ n ≤ 512)) (hs : sat W (dsP b nx most L :: H) w) :
    Calls Try.prog 69 #[.pointer (some ⟨b, 0, none⟩), .int .i64 n, aV a] w fun e w' => e = .returned (.tuple #[.agg #[.int .i64 0, .pointer none], .int .i64 2]) ∧ sat W (dsP b nx most L :: H) w' := by
  have HMY : Hid (decide (1 ≤ (n : Int) ∧ (n : Int) ≤ 512) = false) := Lib.hid (decide_eq_false (by omega))
  obtain ⟨fg, bg, fl⟩ := a
  clear h0
  go_enter Try.func69, Try.ntmps69
  go_wp2_with (first | (go_at_call 33; refine (may19 (by (apply sk_from (hs := hs); repeat constructor))).mono ?_; clear hs; rintro e w ⟨rfl, hs⟩; rw [HMY.out]) | ((with_reducible refine isl ?_); first | ((with_reducible apply stswx); exact rfl; exact rfl; exact rfl; (exact hs.b0); exact rfl; exact row64; exact rfl; exact rfl; exact rfl; clear hs; intro w hs) | ((with_reducible refine wrap hs ?_); clear hs; (first | (have _t := z4; clear _t; generalize w.heap.size = z5) | generalize w.heap.size = z4); intro w hs)))
  (refine ⟨rfl, _, results_ct hs.b0 rfl rfl row64, ?_⟩)
  exact ⟨rfl, by refine sb_from ?_ hs; repeat constructor⟩
theorem fresh8_no {b most : Nat} {n nx : Int} {L : List LN} {a : At} (h0 : ¬ (1 ≤ n ∧ n ≤ 512)) (h : 0 < nx) (hs : sat W (stP b most nx L :: H) w) :
    Calls Try.prog 65 #[.pointer (some ⟨b, 0, none⟩), .int .i64 n, aV a] w fun e w' => e = .returned (.tuple #[.agg #[.int .i64 0, .pointer none], .int .i64 2]) ∧ sat W (stP b most nx L :: H) w' := by
  have HH := Lib.hid h0
  obtain ⟨fg, bg, fl⟩ := a
  clear h0
  go_enter Try.func65, Try.ntmps65
  go_wp2_with (first | (go_at_call 42; refine (ready27_st h (by (apply sk_from (hs := hs); repeat constructor))).mono ?_; clear hs; rintro e w ⟨rfl, hs⟩) | (go_at_call 82; refine (new7_no HH.out (by (apply sk_from (hs := hs); repeat constructor))).mono ?_; clear hs; rintro e w ⟨rfl, hs⟩) | ((with_reducible refine isl ?_); first | ((with_reducible apply stswx); exact rfl; exact rfl; exact rfl; (exact hs.b1); exact rfl; exact row29; exact rfl; exact rfl; exact rfl; clear hs; intro w hs) | ((with_reducible refine wrap hs ?_); clear hs; (first | (have _t := z4; clear _t; generalize w.heap.size = z5) | generalize w.heap.size = z4); intro w hs)))
  (refine ⟨rfl, _, results_ct hs.b0 rfl rfl row29, ?_⟩)
  exact ⟨rfl, by refine sb_from ?_ hs; repeat constructor⟩
theorem push9_no {b b2 most m : Nat} {nx id : Int} {L : List LN} {l : List C} (hl : l.length = m) (h0 : 0 < m) (h : 0 < nx) (hid : ¬ (1 ≤ id ∧ id < nx)) (hs : sat W (stP b most nx L :: rwP 96 b2 l :: H) w) :
    Calls Try.prog 64 #[.pointer (some ⟨b, 0, none⟩), .agg #[.int .i64 id, .pointer (some ⟨b2, 0, none⟩)]] w fun e w' => e = .returned (.int .i64 2) ∧ sat W (stP b most nx L :: rwP 96 b2 l :: H) w' := by
  obtain ⟨first, n, ps, a, p, HO, hn, hf, hs⟩ := st_open hs
  have HLL := Lib.hid hl
  have g0 : ¬ (m : Int) = 0 := by omega
  have g0' : ((m : Int) == 0) = false := beq_eq_false_iff_ne.2 g0
  by_cases h1 : id < 1
  · have g1 : decide (id < 1) = true := decide_eq_true h1
    clear hl hid
    go_enter Try.func64, Try.ntmps64
    go_upto_region 3 with (first | (go_at_call 42; refine (ready27 h (by (apply sk_from (hs := hs); repeat constructor))).mono ?_; clear hs; rintro e w ⟨rfl, hs⟩) | ((with_reducible refine isl ?_); first | ((with_reducible refine wrap hs ?_); clear hs; (generalize w.heap.size = z4); intro w hs)))
    refine region_mix [([0, 1], [2])] [3, 4, 5, 6, 7, 8, 9, 10, 11, 12, 13, 14, 15, 16, 17, 18] hs (fun _ h => by (show sat W [cel b 76 [.int .i64 most, .int .i64 first, .slice a n p, .int .i64 nx], cel z4 81 [.int .i64 id, .pointer (some ⟨b2, 0, none⟩)]] _; refine sb_from ?_ h; repeat constructor)) (by kernel_rfl) (by kernel_rfl) (fun _ _ _ _ _ h => h) ?_
    simp only [segs, nths, nth, List.append_nil, List.nil_append, List.cons_append, List.map_cons, List.map_nil]
    refine seg_reads (fun _ h => by (show sat W [cel b 76 [.int .i64 most, .int .i64 first, .slice a n p, .int .i64 nx], cel z4 81 [.int .i64 id, .pointer (some ⟨b2, 0, none⟩)]] _; refine sb_from ?_ h; repeat constructor)) ?_; intro X f hne hf hcl; (try simp only [Act.put, List.setIfInBounds_toArray, List.set_cons_succ, List.set_cons_zero]); (repeat ((first | ((with_reducible apply ldqx); exact rfl; exact rfl; exact rfl; (exact fun x => (hf x).b1); exact rfl; kernel_rfl) | go_big_quiet_step (fail)); (try simp only [Act.put, List.setIfInBounds_toArray, List.set_cons_succ, List.set_cons_zero]))); refine wpQuiet_nil ?_; clear hcl hf hne hs f X; intro w hs
    go_wp2_with ((go_at_call 30; refine (len27 HLL.out h0 (by (apply sk_from (hs := hs); repeat constructor))).mono ?_; clear hs; rintro e w ⟨rfl, hs⟩))
    (refine seg_on hs (fun _ h => h) ?_ ?_)
    · exact fun _ h => by (show sat W [cel b 76 [.int .i64 most, .int .i64 first, .slice a n p, .int .i64 nx], cel z4 81 [.int .i64 id, .pointer (some ⟨b2, 0, none⟩)]] _; refine sb_from ?_ h; repeat constructor)
    clear hs; intro hs
    refine seg_last (fun _ h => by (show sat W [cel b 76 [.int .i64 most, .int .i64 first, .slice a n p, .int .i64 nx], cel z4 81 [.int .i64 id, .pointer (some ⟨b2, 0, none⟩)]] _; refine sb_from ?_ h; repeat constructor)) ?_; intro X f hne hf hcl; (try simp only [Act.put, List.setIfInBounds_toArray, List.set_cons_succ, List.set_cons_zero]); (repeat ((first | ((with_reducible apply ldqx); exact rfl; exact rfl; exact rfl; (exact fun x => (hf x).b1); exact rfl; kernel_rfl) | go_big_quiet_step (fail)); (try simp only [Act.put, List.setIfInBounds_toArray, List.set_cons_succ, List.set_cons_zero]))); refine wpQuiet_nil ?_; clear hcl hf hne hs f X; intro w hs
    go_wp2_with fail
    go_ret
    exact ⟨rfl, HO.out.close (by refine sb_from ?_ hs; repeat constructor)⟩
  · have g1 : decide (id < 1) = false := decide_eq_false h1
    have g2 : decide (nx ≤ id) = true := decide_eq_true (by omega)
    clear hl hid
    go_enter Try.func64, Try.ntmps64
    go_upto_region 3 with (first | (go_at_call 42; refine (ready27 h (by (apply sk_from (hs := hs); repeat constructor))).mono ?_; clear hs; rintro e w ⟨rfl, hs⟩) | ((with_reducible refine isl ?_); first | ((with_reducible refine wrap hs ?_); clear hs; (generalize w.heap.size = z4); intro w hs)))
    refine region_mix [([0, 1], [2])] [3, 4, 5, 6, 7, 8, 9, 10, 11, 12, 13, 14, 15, 16, 17, 18] hs (fun _ h => by (show sat W [cel b 76 [.int .i64 most, .int .i64 first, .slice a n p, .int .i64 nx], cel z4 81 [.int .i64 id, .pointer (some ⟨b2, 0, none⟩)]] _; refine sb_from ?_ h; repeat constructor)) (by kernel_rfl) (by kernel_rfl) (fun _ _ _ _ _ h => h) ?_
    simp only [segs, nths, nth, List.append_nil, List.nil_append, List.cons_append, List.map_cons, List.map_nil]
    refine seg_reads (fun _ h => by (show sat W [cel b 76 [.int .i64 most, .int .i64 first, .slice a n p, .int .i64 nx], cel z4 81 [.int .i64 id, .pointer (some ⟨b2, 0, none⟩)]] _; refine sb_from ?_ h; repeat constructor)) ?_; intro X f hne hf hcl; (try simp only [Act.put, List.setIfInBounds_toArray, List.set_cons_succ, List.set_cons_zero]); (repeat ((first | ((with_reducible apply ldqx); exact rfl; exact rfl; exact rfl; (exact fun x => (hf x).b1); exact rfl; kernel_rfl) | go_big_quiet_step (fail)); (try simp only [Act.put, List.setIfInBounds_toArray, List.set_cons_succ, List.set_cons_zero]))); refine wpQuiet_nil ?_; clear hcl hf hne hs f X; intro w hs
    go_wp2_with ((go_at_call 30; refine (len27 HLL.out h0 (by (apply sk_from (hs := hs); repeat constructor))).mono ?_; clear hs; rintro e w ⟨rfl, hs⟩))
    (refine seg_on hs (fun _ h => h) ?_ ?_)
    · exact fun _ h => by (show sat W [cel b 76 [.int .i64 most, .int .i64 first, .slice a n p, .int .i64 nx], cel z4 81 [.int .i64 id, .pointer (some ⟨b2, 0, none⟩)]] _; refine sb_from ?_ h; repeat constructor)
    clear hs; intro hs
    refine seg_last (fun _ h => by (show sat W [cel b 76 [.int .i64 most, .int .i64 first, .slice a n p, .int .i64 nx], cel z4 81 [.int .i64 id, .pointer (some ⟨b2, 0, none⟩)]] _; refine sb_from ?_ h; repeat constructor)) ?_; intro X f hne hf hcl; (try simp only [Act.put, List.setIfInBounds_toArray, List.set_cons_succ, List.set_cons_zero]); (repeat ((first | ((with_reducible apply ldqx); exact rfl; exact rfl; exact rfl; (first | exact fun x => (hf x).b0 | exact fun x => (hf x).b1); exact rfl; kernel_rfl) | go_big_quiet_step (fail)); (try simp only [Act.put, List.setIfInBounds_toArray, List.set_cons_succ, List.set_cons_zero]))); refine wpQuiet_nil ?_; clear hcl hf hne hs f X; intro w hs
    go_wp2_with fail
    go_ret
    exact ⟨rfl, HO.out.close (by refine sb_from ?_ hs; repeat constructor)⟩
theorem len27_nil (hs : sat W H w) : Calls Try.prog 30 #[.pointer none] w fun e w' => e = .returned (.int .i64 0) ∧ sat W H w' := by
  go_enter Try.func30, Try.ntmps30
  go_wp2_with ((go_at_call 58; refine (ready40_nil (by (apply sk_from (hs := hs); repeat constructor))).mono ?_; clear hs; rintro e w ⟨rfl, hs⟩))
  go_ret
  exact ⟨rfl, hs⟩
theorem push9_nil {b most : Nat} {nx id : Int} {L : List LN} (h : 0 < nx) (hs : sat W (stP b most nx L :: H) w) :
    Calls Try.prog 64 #[.pointer (some ⟨b, 0, none⟩), .agg #[.int .i64 id, .pointer none]] w fun e w' => e = .returned (.int .i64 2) ∧ sat W (stP b most nx L :: H) w' := by
  obtain ⟨first, n, ps, a, p, HO, hn, hf, hs⟩ := st_open hs
  go_enter Try.func64, Try.ntmps64
  go_upto_region 3 with (first | (go_at_call 42; refine (ready27 h (by (apply sk_from (hs := hs); repeat constructor))).mono ?_; clear hs; rintro e w ⟨rfl, hs⟩) | ((with_reducible refine isl ?_); first | ((with_reducible refine wrap hs ?_); clear hs; (generalize w.heap.size = z4); intro w hs)))
  refine region_mix [([0, 1], [2])] [3, 4, 5, 6, 7, 8, 9, 10, 11, 12, 13, 14, 15, 16, 17, 18] hs (fun _ h => by (show sat W [cel b 76 [.int .i64 most, .int .i64 first, .slice a n p, .int .i64 nx], cel z4 81 [.int .i64 id, .pointer none]] _; refine sb_from ?_ h; repeat constructor)) (by kernel_rfl) (by kernel_rfl) (fun _ _ _ _ _ h => h) ?_
  simp only [segs, nths, nth, List.append_nil, List.nil_append, List.cons_append, List.map_cons, List.map_nil]
  refine seg_reads (fun _ h => by (show sat W [cel b 76 [.int .i64 most, .int .i64 first, .slice a n p, .int .i64 nx], cel z4 81 [.int .i64 id, .pointer none]] _; refine sb_from ?_ h; repeat constructor)) ?_; intro X f hne hf hcl; (try simp only [Act.put, List.setIfInBounds_toArray, List.set_cons_succ, List.set_cons_zero]); (repeat ((first | ((with_reducible apply ldqx); exact rfl; exact rfl; exact rfl; (exact fun x => (hf x).b1); exact rfl; kernel_rfl) | go_big_quiet_step (fail)); (try simp only [Act.put, List.setIfInBounds_toArray, List.set_cons_succ, List.set_cons_zero]))); refine wpQuiet_nil ?_; clear hcl hf hne hs f X; intro w hs
  go_wp2_with ((go_at_call 30; refine (len27_nil (by (apply sk_from (hs := hs); repeat constructor))).mono ?_; clear hs; rintro e w ⟨rfl, hs⟩))
  (refine seg_on hs (fun _ h => h) ?_ ?_)
  · exact fun _ h => by (show sat W [cel b 76 [.int .i64 most, .int .i64 first, .slice a n p, .int .i64 nx], cel z4 81 [.int .i64 id, .pointer none]] _; refine sb_from ?_ h; repeat constructor)
  clear hs; intro hs
  refine seg_last (fun _ h => by (show sat W [cel b 76 [.int .i64 most, .int .i64 first, .slice a n p, .int .i64 nx], cel z4 81 [.int .i64 id, .pointer none]] _; refine sb_from ?_ h; repeat constructor)) ?_; intro X f hne hf hcl; (try simp only [Act.put, List.setIfInBounds_toArray, List.set_cons_succ, List.set_cons_zero]); (repeat ((go_big_quiet_step (fail)); (try simp only [Act.put, List.setIfInBounds_toArray, List.set_cons_succ, List.set_cons_zero]))); refine wpQuiet_nil ?_; clear hcl hf hne hs f X; intro w hs
  go_wp2_with fail
  go_ret
  exact ⟨rfl, HO.out.close (by refine sb_from ?_ hs; repeat constructor)⟩
end Go.Proofs.Ytdcagaaanbgcoaa
namespace Go.Proofs.Ytdcagaaanbgcoaa
open Go.RowKit Go.Mem Go.Cells Go.Lines
variable {W w : World} {H : List HProp}
theorem own_at0 {T size n c : Nat} {a : Option Addr} {xs : List Value} (h0 : 0 < n) (hs : sat W (own T size (.slice a n c) n xs :: H) w) : n ≤ c ∧ c ≤ maxLen := by
  obtain ⟨g, rfl⟩ := own_ptr h0 hs
  exact hs.own_len
attribute [local irreducible] rowTy oneTy World.setCell World.setCells World.alloc World.drew World.drewN Calls sat cel own blk old wpQuiet wpList cmb cmb1 rwP cls rws wi wh fst_ World.rangeAt lrw lnP stP lsP dsP lvs
set_option maxRecDepth 8000 in
theorem rpush23 {b b2 most m : Nat} {nx id : Int} {L : List LN} {l : List C} (hl : l.length = m) (h0 : 0 < m) (h5 : m ≤ 512) (ok : Ok l) (hid : 1 ≤ id ∧ id < nx) (hm : L.length ≤ most) (hmm : most ≤ 10000) (hs : sat W (dsP b nx most L :: rwP 100 b2 l :: H) w) :
    Calls Try.prog 72 #[.pointer (some ⟨b, 0, none⟩), .int .i64 id, .pointer (some ⟨b2, 0, none⟩)] w fun e w' => e = .returned (.int .i64 0) ∧ sat W (dsP b nx most (push most L (id, l)) :: rwP 100 b2 l :: H) w' := by
  obtain ⟨n, hn⟩ : ∃ n, L.length = n := ⟨_, rfl⟩
  rw [hn] at hm
  obtain ⟨ps, a, c, HO, hs⟩ := ds_open hn hs
  have HLN := Lib.hid hn
  have HLZ : Hid ((lvs ps).flatten.length = n * 2) := Lib.hid (by rw [lvs_size, HO.out.2])
  have H4 := Lib.hid ok.m4
  have HLL := Lib.hid hl
  have g0 : ¬ (m : Int) = 0 := by omega
  have g0' : ((m : Int) == 0) = false := beq_eq_false_iff_ne.2 g0
  have g1 : decide (id < 1) = false := decide_eq_false (by omega)
  have g2 : decide (nx ≤ id) = false := decide_eq_false (by omega)
  obtain ⟨pr, ar, cr, hpr, hs⟩ := rw_open (T := 100) (b := b2) HLL.out (by refine sb_from ?_ hs; repeat constructor : sat W (rwP 100 b2 l :: cel b 88 [.int .i64 nx, .int .i64 most, .slice a n c] :: slP 93 (.slice a n c) n (lvs ps).flatten :: lrw 100 ps :: H) w)
  have HPR : Hid (pr.length = m ∧ pr.map (·.c) = l) := Lib.hid ⟨by rw [← HLL.out, ← hpr, List.length_map], hpr⟩
  clear ok hl hid hn hpr
  go_enter Try.func72, Try.ntmps72
  go_upto_region 3 with (((with_reducible refine isl ?_); first | ((with_reducible apply ldx); exact rfl; exact rfl; exact rfl; (first | exact hs.b0 | exact hs.b3); exact rfl; kernel_rfl)))
  have h6 := rw_close HPR.out.1 hs
  rw [HPR.out.2] at h6
  clear hs
  have hs := h6
  clear h6
  have HS : Hid (∀ b3 : Nat, (lvs ps).flatten ++ [.int .i64 id, .pointer (some ⟨b3, 0, none⟩)] = (lvs (ps ++ [⟨id, b3, l⟩])).flatten) := Lib.hid fun b3 => lvs_snoc ps ⟨id, b3, l⟩
  go_upto_region 4 with (first | ((apply apx0 hs.b0; exact rfl; exact rfl; exact rfl; exact rfl; exact slty58; (exact hs.b3.slP_rds); exact HLZ.out; exact lvs_one; omega; (unfold maxLen; omega); clear hs; intro a5 c5 w hs)) | (go_at_call 87; refine (rcopy38 HLL.out h0 (by omega) H4.out (by (apply sk_from (hs := hs); repeat constructor))).mono ?_; clear hs; rintro e w ⟨b3, rfl, hs⟩) | (((with_reducible apply app hs.b3); exact rfl; exact rfl; exact rfl; exact rfl; exact slty58; exact rfl; exact rfl; decide; omega; (unfold maxLen; omega); clear hs; intro a9 c9 w hs; rw [HS.out b3] at hs)) | ((with_reducible refine isl ?_); first | ((with_reducible apply ldx); exact rfl; exact rfl; exact rfl; (exact hs.b2); exact rfl; kernel_rfl) | ((with_reducible apply stx); exact rfl; exact rfl; exact rfl; (exact hs.b3); exact rfl; exact rfl; exact rfl; kernel_rfl; exact rfl; clear hs; intro w hs) | ((with_reducible refine wrap hs ?_); clear hs; intro w hs)))
  obtain ⟨q1, q2⟩ := own_at0 (by omega) hs.b1
  have hcm : (c9 : Int) ≤ 9223372036854775807 := by unfold maxLen at q2; omega
  clear q2
  have hs1 : sat W (rwP 100 b3 l :: lrw 100 ps :: cel b 88 [.int .i64 nx, .int .i64 most, .slice (some ⟨a9, 0, none⟩) (n + 1) c9] :: own 93 2 (.slice (some ⟨a9, 0, none⟩) (n + 1) c9) (n + 1) (lvs (ps ++ [⟨id, b3, l⟩])).flatten :: rwP 100 b2 l :: H) w := by refine sb_from ?_ hs; repeat constructor
  have hs2 := lrw_snoc (y := ⟨id, b3, l⟩) hs1
  clear hs hs1
  have hs : sat W (cel b 88 [.int .i64 nx, .int .i64 most, .slice (some ⟨a9, 0, none⟩) (n + 1) c9] :: own 93 2 (.slice (some ⟨a9, 0, none⟩) (n + 1) c9) (n + 1) (lvs (ps ++ [⟨id, b3, l⟩])).flatten :: lrw 100 (ps ++ [⟨id, b3, l⟩]) :: rwP 100 b2 l :: H) w := by refine sb_from ?_ hs2; repeat constructor
  clear hs2
  have HL1 : Hid ((ps ++ [(⟨id, b3, l⟩ : PL)]).length = n + 1) := Lib.hid (by rw [List.length_append, HO.out.2]; rfl)
  have HM1 : Hid ((ps ++ [(⟨id, b3, l⟩ : PL)]).map PL.ln = L ++ [(id, l)]) := Lib.hid (by rw [List.map_append, HO.out.1]; rfl)
  generalize ps ++ [(⟨id, b3, l⟩ : PL)] = qs at hs HL1 HM1
  ((try simp only [Act.put, List.setIfInBounds_toArray, List.set_cons_succ, List.set_cons_zero]); refine region_sat hs (by kernel_rfl) (by kernel_rfl) ?_; intro X f hne hf hcl; (repeat ((first | ((with_reducible apply ldqx); exact rfl; exact rfl; exact rfl; (exact fun x => (hf x).b0); exact rfl; kernel_rfl) | go_big_quiet_step (fail)); (try simp only [Act.put, List.setIfInBounds_toArray, List.set_cons_succ, List.set_cons_zero]))); refine wpQuiet_nil ?_; clear hcl hf hne hs f X; intro w hs)
  by_cases hc : most < n + 1
  · have g5 : (most : Int) < (n : Int) + 1 := by omega
    have HPU : Hid (push most L (id, l) = (qs.drop 1).map PL.ln) := Lib.hid (by
      unfold push
      rw [if_pos (by rw [List.length_append, HLN.out]; exact hc), List.map_drop, HM1.out])
    have HQ : Hid ((lvs qs).flatten.drop (1 * 2) = (lvs (qs.drop 1)).flatten ∧ (qs.drop 1).length = n) := Lib.hid ⟨by rw [flat_drop _ _ (lvs2 qs), lvs_drop], by rw [List.length_drop, HL1.out]; omega⟩
    clear hc
    go_upto_region 5 with fail
    by_cases hc9 : c9 = 1
    · have hn0 : n = 0 := by omega
      have HN0 := Lib.hid hn0
      clear hn0
      go_wp2_with (((with_reducible refine isl ?_); first | ((with_reducible apply ldx); exact rfl; exact rfl; exact rfl; (exact hs.b0); exact rfl; kernel_rfl) | ((with_reducible apply stx); exact rfl; exact rfl; exact rfl; (exact hs.b0); exact rfl; exact rfl; exact rfl; kernel_rfl; exact rfl; clear hs; intro w hs)))
      go_ret
      have h7 := hs.b1.own_slP_none 0 0 (by decide)
      refine ⟨rfl, ?_⟩
      rw [HPU.out]
      have e1 : qs.drop 1 = [] := List.eq_nil_of_length_eq_zero (by rw [HQ.out.2, HN0.out])
      have h8 := lrw_nil (R := 100) h7
      rw [e1]
      refine ds_close (n := 0) (ps := []) (v := .slice (some ⟨a9, 0, none⟩) 0 0) rfl rfl ?_
      have e2 : (lvs []).flatten = [] := by unfold lvs; rfl
      rw [e2]
      have e3 := HN0.out
      have e4 : c9 - 1 = 0 := by omega
      simp only [e3] at h8
      refine sb_from ?_ h8; repeat constructor
    · go_wp2_with (((with_reducible refine isl ?_); first | ((with_reducible apply ldx); exact rfl; exact rfl; exact rfl; (exact hs.b0); exact rfl; kernel_rfl) | ((with_reducible apply stx); exact rfl; exact rfl; exact rfl; (exact hs.b0); exact rfl; exact rfl; exact rfl; kernel_rfl; exact rfl; clear hs; intro w hs)))
      go_ret
      have h7 := hs.b1.own_slP_drop (k := 1) (by omega)
      rw [HQ.out.1] at h7
      refine ⟨rfl, ?_⟩
      rw [HPU.out]
      have h8 := lrw_drop 1 (by refine sb_from ?_ h7; repeat constructor : sat W (lrw 100 qs :: cel b 88 [.int .i64 nx, .int .i64 most, .slice (some ⟨a9, 2, none⟩) n (c9 - 1)] :: slP 93 (.slice (some ⟨a9, 1 * 2, none⟩) (n + 1 - 1) (c9 - 1)) (n + 1 - 1) (lvs (qs.drop 1)).flatten :: rwP 100 b2 l :: H) w)
      exact ds_close HQ.out.2 rfl (by refine sb_from ?_ h8; repeat constructor)
  · have g5 : ¬ (most : Int) < (n : Int) + 1 := by omega
    have HPU : Hid (push most L (id, l) = qs.map PL.ln) := Lib.hid (by
      unfold push
      rw [if_neg (by rw [List.length_append, HLN.out]; exact hc), HM1.out])
    clear hc
    go_wp2_with fail
    go_ret
    refine ⟨rfl, ?_⟩
    rw [HPU.out]
    exact ds_close HL1.out rfl (by have h7 := hs.b1.own_slP; refine sb_from ?_ h7; repeat constructor)
theorem rpush23_no {b b2 most m : Nat} {nx id : Int} {L : List LN} {l : List C} (hl : l.length = m) (h0 : 0 < m) (hid : ¬ (1 ≤ id ∧ id < nx)) (hs : sat W (dsP b nx most L :: rwP 100 b2 l :: H) w) :
    Calls Try.prog 72 #[.pointer (some ⟨b, 0, none⟩), .int .i64 id, .pointer (some ⟨b2, 0, none⟩)] w fun e w' => e = .returned (.int .i64 2) ∧ sat W (dsP b nx most L :: rwP 100 b2 l :: H) w' := by
  obtain ⟨n, hn⟩ : ∃ n, L.length = n := ⟨_, rfl⟩
  obtain ⟨ps, a, c, HO, hs⟩ := ds_open hn hs
  have HLL := Lib.hid hl
  have g0 : ¬ (m : Int) = 0 := by omega
  have g0' : ((m : Int) == 0) = false := beq_eq_false_iff_ne.2 g0
  obtain ⟨pr, ar, cr, hpr, hs⟩ := rw_open (T := 100) (b := b2) HLL.out (by refine sb_from ?_ hs; repeat constructor : sat W (rwP 100 b2 l :: cel b 88 [.int .i64 nx, .int .i64 most, .slice a n c] :: slP 93 (.slice a n c) n (lvs ps).flatten :: lrw 100 ps :: H) w)
  have HPR : Hid (pr.length = m ∧ pr.map (·.c) = l) := Lib.hid ⟨by rw [← HLL.out, ← hpr, List.length_map], hpr⟩
  by_cases h1 : id < 1
  · have g1 : decide (id < 1) = true := decide_eq_true h1
    clear hl hid hn hpr
    go_enter Try.func72, Try.ntmps72
    go_wp2_with (((with_reducible refine isl ?_); first | ((with_reducible apply ldx); exact rfl; exact rfl; exact rfl; (exact hs.b0); exact rfl; kernel_rfl)))
    go_ret
    have h6 := rw_close HPR.out.1 hs
    rw [HPR.out.2] at h6
    exact ⟨rfl, ds_close HO.out.2 HO.out.1 (by refine sb_from ?_ h6; repeat constructor)⟩
  · have g1 : decide (id < 1) = false := decide_eq_false h1
    have g2 : decide (nx ≤ id) = true := decide_eq_true (by omega)
    clear hl hid hn hpr
    go_enter Try.func72, Try.ntmps72
    go_wp2_with (((with_reducible refine isl ?_); first | ((with_reducible apply ldx); exact rfl; exact rfl; exact rfl; (first | exact hs.b0 | exact hs.b3); exact rfl; kernel_rfl)))
    go_ret
    have h6 := rw_close HPR.out.1 hs
    rw [HPR.out.2] at h6
    exact ⟨rfl, ds_close HO.out.2 HO.out.1 (by refine sb_from ?_ h6; repeat constructor)⟩
end Go.Proofs.Ytdcagaaanbgcoaa
