/- Law 9: Up, Down, InsertLines, DeleteLines, SetMargins, New. -/
import Derived.Test.YtdcagaaanbgcoaaSf
import Derived.Test.YtdcagaaanbgcoaaS5
namespace Go.Proofs.Ytdcagaaanbgcoaa
open Go.RowKit Go.Mem Go.Cells Go.Lines
variable {W w : World} {H : List HProp}
attribute [local irreducible] rowTy oneTy World.setCell World.setCells World.alloc World.drew World.drewN Calls sat cel own blk old wpQuiet wpList cmb cmb1 rwP cls rws wi wh fst_ World.rangeAt lrw lnP stP lsP dsP lvs frL downL upL pushs
section
variable {b s N cols most : Nat} {keeps : Bool} {top bot nx q : Int} {L SL : List LN} {at_ : At} {f k : Nat}
theorem sc_open' {b s n : Nat} {keeps : Bool} {cols : Nat} {top bot : Int} {L : List LN} (hn : L.length = n) (h0 : 0 < n) (hs : sat W (scP b s ⟨keeps, cols, top, bot, L⟩ :: H) w) : ∃ (ps : List PL) (g : Nat) (p : Nat), Hid (ps.map PL.ln = L ∧ ps.length = n) ∧ sat W (cel b 46 [.pointer (some ⟨s, 0, none⟩), .bool keeps, .int .i64 cols, .slice (some ⟨g, 0, none⟩) n p, .int .i64 top, .int .i64 bot] :: own 81 2 (.slice (some ⟨g, 0, none⟩) n p) n (lvs ps).flatten :: lrw 96 ps :: H) w := by
  obtain ⟨ps, a, p, HO, hs⟩ := sc_open hn hs
  obtain ⟨g, rfl⟩ := own_ptr h0 hs.b1
  exact ⟨ps, g, p, HO, hs⟩
theorem sdn13 (hn : L.length = N) (h0 : 0 < N) (hN : N ≤ 512) (ht : top = (f : Int)) (hb : bot = ((f + k : Nat) : Int) - 1) (hf : f + k ≤ N) (hk : 0 < k) (c0 : 1 ≤ cols) (c1 : cols ≤ 512) (hnx : 0 < nx) (hnb : nx + 512 ≤ 1000000)
    (hs : sat W (scP b s ⟨keeps, cols, top, bot, L⟩ :: stP s most nx SL :: H) w) :
    Calls Try.prog 13 #[.pointer (some ⟨b, 0, none⟩), .int .i64 q, aV at_] w fun e w' => e = .returned (.int .i64 0) ∧ sat W (scP b s ⟨keeps, cols, top, bot, downL L f k (hld q k) (frL (hld q k) nx (frC cols at_))⟩ :: stP s most (nx + hld q k) SL :: H) w' := by
  obtain ⟨fg, bg, fl⟩ := at_
  obtain ⟨ps, g, p, HO, hs⟩ := sc_open' hn h0 hs
  subst ht
  have HH := Lib.hid (And.intro hb (And.intro hN (And.intro c1 hnb)))
  clear hb hN c1 hnb hn
  go_enter Try.func13, Try.ntmps13
  go_upto_region 3 with (first | (go_at_call 37; refine (sready37 h0 (by (apply sk_from (hs := hs); repeat constructor))).mono ?_; clear hs; rintro e w ⟨rfl, hs⟩) | ((with_reducible refine isl ?_); first | ((with_reducible refine wrap hs ?_); clear hs; (generalize w.heap.size = z5); intro w hs)))
  refine region_mix [([0, 1, 2, 3, 4, 5, 6, 7, 8, 9, 10], [11])] [] hs (fun _ h => by (show sat W [cel b 46 [.pointer (some ⟨s, 0, none⟩), .bool keeps, .int .i64 cols, .slice (some ⟨g, 0, none⟩) N p, .int .i64 (f : Int), .int .i64 bot], cel z5 25 [.int .u32 fg, .int .u32 bg, .int .u16 fl]] _; refine sb_from ?_ h; repeat constructor)) (by kernel_rfl) (by kernel_rfl) (fun _ _ _ _ _ h => h) ?_
  simp only [segs, nths, nth, List.append_nil, List.nil_append, List.cons_append, List.map_cons, List.map_nil]
  refine seg_reads (fun _ h => by (show sat W [cel b 46 [.pointer (some ⟨s, 0, none⟩), .bool keeps, .int .i64 cols, .slice (some ⟨g, 0, none⟩) N p, .int .i64 (f : Int), .int .i64 bot], cel z5 25 [.int .u32 fg, .int .u32 bg, .int .u16 fl]] _; refine sb_from ?_ h; repeat constructor)) ?_; intro X f hne hf hcl; (try simp only [Act.put, List.setIfInBounds_toArray, List.set_cons_succ, List.set_cons_zero]); (repeat ((first | ((with_reducible apply ldsq (cs := [.int .u32 fg, .int .u32 bg, .int .u16 fl]) 3 (fun x => (hf x).b1)); exact rfl; exact rfl; exact rfl; exact row33; exact rfl; exact rfl) | ((with_reducible apply ldqx); exact rfl; exact rfl; exact rfl; (exact fun x => (hf x).b0); exact rfl; kernel_rfl) | go_big_quiet_step (fail)); (try simp only [Act.put, List.setIfInBounds_toArray, List.set_cons_succ, List.set_cons_zero]))); refine wpQuiet_nil ?_; clear hcl hf hne hs f X; intro w hs
  go_wp2_with ((go_at_call 41; refine (sdown41 (at_ := ⟨fg, bg, fl⟩) (q := q) HO hf hk HH.out.1 HH.out.2.1 c0 HH.out.2.2.1 hnx HH.out.2.2.2 (by (apply sk_from (hs := hs); repeat constructor))).mono ?_; clear hs; rintro e w ⟨rfl, ps2, HO2, hs⟩))
  (refine seg_on hs (fun _ h => h) ?_ ?_)
  · exact fun _ h => by (show sat W [cel b 46 [.pointer (some ⟨s, 0, none⟩), .bool keeps, .int .i64 cols, .slice (some ⟨g, 0, none⟩) N p, .int .i64 (f : Int), .int .i64 bot], cel z5 25 [.int .u32 fg, .int .u32 bg, .int .u16 fl]] _; refine sb_from ?_ h; repeat constructor)
  clear hs; intro hs
  refine seg_last (fun _ h => by (show sat W [cel b 46 [.pointer (some ⟨s, 0, none⟩), .bool keeps, .int .i64 cols, .slice (some ⟨g, 0, none⟩) N p, .int .i64 (f : Int), .int .i64 bot], cel z5 25 [.int .u32 fg, .int .u32 bg, .int .u16 fl]] _; refine sb_from ?_ h; repeat constructor)) ?_; intro X f hne hf hcl; (try simp only [Act.put, List.setIfInBounds_toArray, List.set_cons_succ, List.set_cons_zero]); (repeat ((fail); (try simp only [Act.put, List.setIfInBounds_toArray, List.set_cons_succ, List.set_cons_zero]))); refine wpQuiet_nil ?_; clear hcl hf hne hs f X; intro w hs
  go_wp2_with fail
  go_ret
  exact ⟨rfl, sc_close HO2 (by refine sb_from ?_ hs; repeat constructor)⟩
theorem within43 {b s n p : Nat} {a : Option Addr} {at2 : Int} (h : 0 < n) (hs : sat W (cel b 46 [.pointer (some ⟨s, 0, none⟩), .bool keeps, .int .i64 cols, .slice a n p, .int .i64 top, .int .i64 bot] :: H) w) :
    Calls Try.prog 43 #[.pointer (some ⟨b, 0, none⟩), .int .i64 at2] w fun e w' => e = .returned (.int .i64 (if at2 < top ∨ bot < at2 then 2 else 0)) ∧ sat W (cel b 46 [.pointer (some ⟨s, 0, none⟩), .bool keeps, .int .i64 cols, .slice a n p, .int .i64 top, .int .i64 bot] :: H) w' := by
  by_cases h1 : at2 < top
  · have g1 : decide (at2 < top) = true := decide_eq_true h1
    have HE : Hid ((if at2 < top ∨ bot < at2 then (2 : Int) else 0) = 2) := Lib.hid (if_pos (.inl h1))
    rw [HE.out]
    clear h1
    go_enter Try.func43, Try.ntmps43
    go_wp2_with (first | (go_at_call 37; refine (sready37 h (by (apply sk_from (hs := hs); repeat constructor))).mono ?_; clear hs; rintro e w ⟨rfl, hs⟩) | ((with_reducible refine isl ?_); first | ((with_reducible apply ldx); exact rfl; exact rfl; exact rfl; exact hs.b0; exact rfl; kernel_rfl)))
    go_ret
    exact ⟨rfl, hs⟩
  · have g1 : decide (at2 < top) = false := decide_eq_false h1
    by_cases h2 : bot < at2
    · have g2 : decide (bot < at2) = true := decide_eq_true h2
      have HE : Hid ((if at2 < top ∨ bot < at2 then (2 : Int) else 0) = 2) := Lib.hid (if_pos (.inr h2))
      rw [HE.out]
      clear h1 h2
      go_enter Try.func43, Try.ntmps43
      go_wp2_with (first | (go_at_call 37; refine (sready37 h (by (apply sk_from (hs := hs); repeat constructor))).mono ?_; clear hs; rintro e w ⟨rfl, hs⟩) | ((with_reducible refine isl ?_); first | ((with_reducible apply ldx); exact rfl; exact rfl; exact rfl; exact hs.b0; exact rfl; kernel_rfl)))
      go_ret
      exact ⟨rfl, hs⟩
    · have g2 : decide (bot < at2) = false := decide_eq_false h2
      have HE : Hid ((if at2 < top ∨ bot < at2 then (2 : Int) else 0) = 0) := Lib.hid (if_neg (by omega))
      rw [HE.out]
      clear h1 h2
      go_enter Try.func43, Try.ntmps43
      go_wp2_with (first | (go_at_call 37; refine (sready37 h (by (apply sk_from (hs := hs); repeat constructor))).mono ?_; clear hs; rintro e w ⟨rfl, hs⟩) | ((with_reducible refine isl ?_); first | ((with_reducible apply ldx); exact rfl; exact rfl; exact rfl; exact hs.b0; exact rfl; kernel_rfl)))
      go_ret
      exact ⟨rfl, hs⟩
/-- .. at a row f of the lines that move (top ≤ f ≤ bottom = f + k - 1). -/
theorem sins16 (hn : L.length = N) (h0 : 0 < N) (hN : N ≤ 512) (ht : top ≤ (f : Int)) (hb : bot = ((f + k : Nat) : Int) - 1) (hf : f + k ≤ N) (hk : 0 < k) (c0 : 1 ≤ cols) (c1 : cols ≤ 512) (hnx : 0 < nx) (hnb : nx + 512 ≤ 1000000)
    (hs : sat W (scP b s ⟨keeps, cols, top, bot, L⟩ :: stP s most nx SL :: H) w) :
    Calls Try.prog 16 #[.pointer (some ⟨b, 0, none⟩), .int .i64 (f : Int), .int .i64 q, aV at_] w fun e w' => e = .returned (.int .i64 0) ∧ sat W (scP b s ⟨keeps, cols, top, bot, downL L f k (hld q k) (frL (hld q k) nx (frC cols at_))⟩ :: stP s most (nx + hld q k) SL :: H) w' := by
  obtain ⟨fg, bg, fl⟩ := at_
  obtain ⟨ps, g, p, HO, hs⟩ := sc_open' hn h0 hs
  have HW : Hid ((if (f : Int) < top ∨ bot < (f : Int) then (2 : Int) else 0) = 0) := Lib.hid (if_neg (by omega))
  have HH := Lib.hid (And.intro hb (And.intro hN (And.intro c1 hnb)))
  clear hb hN c1 hnb hn ht
  go_enter Try.func16, Try.ntmps16
  go_upto_region 4 with (first | (go_at_call 43; refine (within43 h0 (by (apply sk_from (hs := hs); repeat constructor))).mono ?_; clear hs; rintro e w ⟨rfl, hs⟩; rw [HW.out]) | ((with_reducible refine isl ?_); first | ((with_reducible refine wrap hs ?_); clear hs; (generalize w.heap.size = z5); intro w hs)))
  refine region_mix [([0, 1, 2, 3, 4, 5, 6, 7], [8])] [] hs (fun _ h => by (show sat W [cel b 46 [.pointer (some ⟨s, 0, none⟩), .bool keeps, .int .i64 cols, .slice (some ⟨g, 0, none⟩) N p, .int .i64 top, .int .i64 bot], cel z5 25 [.int .u32 fg, .int .u32 bg, .int .u16 fl]] _; refine sb_from ?_ h; repeat constructor)) (by kernel_rfl) (by kernel_rfl) (fun _ _ _ _ _ h => h) ?_
  simp only [segs, nths, nth, List.append_nil, List.nil_append, List.cons_append, List.map_cons, List.map_nil]
  refine seg_reads (fun _ h => by (show sat W [cel b 46 [.pointer (some ⟨s, 0, none⟩), .bool keeps, .int .i64 cols, .slice (some ⟨g, 0, none⟩) N p, .int .i64 top, .int .i64 bot], cel z5 25 [.int .u32 fg, .int .u32 bg, .int .u16 fl]] _; refine sb_from ?_ h; repeat constructor)) ?_; intro X f hne hf hcl; (try simp only [Act.put, List.setIfInBounds_toArray, List.set_cons_succ, List.set_cons_zero]); (repeat ((first | ((with_reducible apply ldsq (cs := [.int .u32 fg, .int .u32 bg, .int .u16 fl]) 3 (fun x => (hf x).b1)); exact rfl; exact rfl; exact rfl; exact row33; exact rfl; exact rfl) | ((with_reducible apply ldqx); exact rfl; exact rfl; exact rfl; (exact fun x => (hf x).b0); exact rfl; kernel_rfl) | go_big_quiet_step (fail)); (try simp only [Act.put, List.setIfInBounds_toArray, List.set_cons_succ, List.set_cons_zero]))); refine wpQuiet_nil ?_; clear hcl hf hne hs f X; intro w hs
  go_wp2_with ((go_at_call 41; refine (sdown41 (at_ := ⟨fg, bg, fl⟩) (q := q) HO hf hk HH.out.1 HH.out.2.1 c0 HH.out.2.2.1 hnx HH.out.2.2.2 (by (apply sk_from (hs := hs); repeat constructor))).mono ?_; clear hs; rintro e w ⟨rfl, ps2, HO2, hs⟩))
  (refine seg_on hs (fun _ h => h) ?_ ?_)
  · exact fun _ h => by (show sat W [cel b 46 [.pointer (some ⟨s, 0, none⟩), .bool keeps, .int .i64 cols, .slice (some ⟨g, 0, none⟩) N p, .int .i64 top, .int .i64 bot], cel z5 25 [.int .u32 fg, .int .u32 bg, .int .u16 fl]] _; refine sb_from ?_ h; repeat constructor)
  clear hs; intro hs
  refine seg_last (fun _ h => by (show sat W [cel b 46 [.pointer (some ⟨s, 0, none⟩), .bool keeps, .int .i64 cols, .slice (some ⟨g, 0, none⟩) N p, .int .i64 top, .int .i64 bot], cel z5 25 [.int .u32 fg, .int .u32 bg, .int .u16 fl]] _; refine sb_from ?_ h; repeat constructor)) ?_; intro X f hne hf hcl; (try simp only [Act.put, List.setIfInBounds_toArray, List.set_cons_succ, List.set_cons_zero]); (repeat ((fail); (try simp only [Act.put, List.setIfInBounds_toArray, List.set_cons_succ, List.set_cons_zero]))); refine wpQuiet_nil ?_; clear hcl hf hne hs f X; intro w hs
  go_wp2_with fail
  go_ret
  exact ⟨rfl, sc_close HO2 (by refine sb_from ?_ hs; repeat constructor)⟩
theorem sdel17 (hn : L.length = N) (h0 : 0 < N) (hN : N ≤ 512) (ht : top ≤ (f : Int)) (hb : bot = ((f + k : Nat) : Int) - 1) (hf : f + k ≤ N) (hk : 0 < k) (c0 : 1 ≤ cols) (c1 : cols ≤ 512) (hnx : 0 < nx) (hnb : nx + 512 ≤ 1000000)
    (hs : sat W (scP b s ⟨keeps, cols, top, bot, L⟩ :: stP s most nx SL :: H) w) :
    Calls Try.prog 17 #[.pointer (some ⟨b, 0, none⟩), .int .i64 (f : Int), .int .i64 q, aV at_] w fun e w' => e = .returned (.int .i64 0) ∧ sat W (scP b s ⟨keeps, cols, top, bot, upL L f k (hld q k) (frL (hld q k) nx (frC cols at_))⟩ :: stP s most (nx + hld q k) SL :: H) w' := by
  obtain ⟨fg, bg, fl⟩ := at_
  obtain ⟨ps, g, p, HO, hs⟩ := sc_open' hn h0 hs
  have HW : Hid ((if (f : Int) < top ∨ bot < (f : Int) then (2 : Int) else 0) = 0) := Lib.hid (if_neg (by omega))
  have HH := Lib.hid (And.intro hb (And.intro hN (And.intro c1 hnb)))
  clear hb hN c1 hnb hn ht
  go_enter Try.func17, Try.ntmps17
  go_upto_region 4 with (first | (go_at_call 43; refine (within43 h0 (by (apply sk_from (hs := hs); repeat constructor))).mono ?_; clear hs; rintro e w ⟨rfl, hs⟩; rw [HW.out]) | ((with_reducible refine isl ?_); first | ((with_reducible refine wrap hs ?_); clear hs; (generalize w.heap.size = z5); intro w hs)))
  refine region_mix [([0, 1, 2, 3, 4, 5, 6, 7, 8], [9]), ([], [10])] [] hs (fun _ h => by (show sat W [cel b 46 [.pointer (some ⟨s, 0, none⟩), .bool keeps, .int .i64 cols, .slice (some ⟨g, 0, none⟩) N p, .int .i64 top, .int .i64 bot], cel z5 25 [.int .u32 fg, .int .u32 bg, .int .u16 fl]] _; refine sb_from ?_ h; repeat constructor)) (by kernel_rfl) (by kernel_rfl) (fun _ _ _ _ _ h => h) ?_
  simp only [segs, nths, nth, List.append_nil, List.nil_append, List.cons_append, List.map_cons, List.map_nil]
  refine seg_reads (fun _ h => by (show sat W [cel b 46 [.pointer (some ⟨s, 0, none⟩), .bool keeps, .int .i64 cols, .slice (some ⟨g, 0, none⟩) N p, .int .i64 top, .int .i64 bot], cel z5 25 [.int .u32 fg, .int .u32 bg, .int .u16 fl]] _; refine sb_from ?_ h; repeat constructor)) ?_; intro X f hne hf hcl; (try simp only [Act.put, List.setIfInBounds_toArray, List.set_cons_succ, List.set_cons_zero]); (repeat ((first | ((with_reducible apply ldsq (cs := [.int .u32 fg, .int .u32 bg, .int .u16 fl]) 3 (fun x => (hf x).b1)); exact rfl; exact rfl; exact rfl; exact row33; exact rfl; exact rfl) | ((with_reducible apply ldqx); exact rfl; exact rfl; exact rfl; (exact fun x => (hf x).b0); exact rfl; kernel_rfl) | go_big_quiet_step (fail)); (try simp only [Act.put, List.setIfInBounds_toArray, List.set_cons_succ, List.set_cons_zero]))); refine wpQuiet_nil ?_; clear hcl hf hne hs f X; intro w hs
  go_wp2_with (fail)
  (refine seg_on hs (fun _ h => h) ?_ ?_)
  · exact fun _ h => by (show sat W [cel b 46 [.pointer (some ⟨s, 0, none⟩), .bool keeps, .int .i64 cols, .slice (some ⟨g, 0, none⟩) N p, .int .i64 top, .int .i64 bot], cel z5 25 [.int .u32 fg, .int .u32 bg, .int .u16 fl]] _; refine sb_from ?_ h; repeat constructor)
  clear hs; intro hs
  refine seg_reads (fun _ h => by (show sat W [cel b 46 [.pointer (some ⟨s, 0, none⟩), .bool keeps, .int .i64 cols, .slice (some ⟨g, 0, none⟩) N p, .int .i64 top, .int .i64 bot], cel z5 25 [.int .u32 fg, .int .u32 bg, .int .u16 fl]] _; refine sb_from ?_ h; repeat constructor)) ?_; intro X f hne hf hcl; (try simp only [Act.put, List.setIfInBounds_toArray, List.set_cons_succ, List.set_cons_zero]); (repeat ((fail); (try simp only [Act.put, List.setIfInBounds_toArray, List.set_cons_succ, List.set_cons_zero]))); refine wpQuiet_nil ?_; clear hcl hf hne hs f X; intro w hs
  go_wp2_with ((go_at_call 40; refine (sup40_drop (at_ := ⟨fg, bg, fl⟩) (q := q) HO hf hk HH.out.1 HH.out.2.1 c0 HH.out.2.2.1 hnx HH.out.2.2.2 (by (apply sk_from (hs := hs); repeat constructor))).mono ?_; clear hs; rintro e w ⟨rfl, ps2, HO2, hs⟩))
  (refine seg_on hs (fun _ h => h) ?_ ?_)
  · exact fun _ h => by (show sat W [cel b 46 [.pointer (some ⟨s, 0, none⟩), .bool keeps, .int .i64 cols, .slice (some ⟨g, 0, none⟩) N p, .int .i64 top, .int .i64 bot], cel z5 25 [.int .u32 fg, .int .u32 bg, .int .u16 fl]] _; refine sb_from ?_ h; repeat constructor)
  clear hs; intro hs
  refine seg_last (fun _ h => by (show sat W [cel b 46 [.pointer (some ⟨s, 0, none⟩), .bool keeps, .int .i64 cols, .slice (some ⟨g, 0, none⟩) N p, .int .i64 top, .int .i64 bot], cel z5 25 [.int .u32 fg, .int .u32 bg, .int .u16 fl]] _; refine sb_from ?_ h; repeat constructor)) ?_; intro X f hne hf hcl; (try simp only [Act.put, List.setIfInBounds_toArray, List.set_cons_succ, List.set_cons_zero]); (repeat ((fail); (try simp only [Act.put, List.setIfInBounds_toArray, List.set_cons_succ, List.set_cons_zero]))); refine wpQuiet_nil ?_; clear hcl hf hne hs f X; intro w hs
  go_wp2_with fail
  go_ret
  exact ⟨rfl, sc_close HO2 (by refine sb_from ?_ hs; repeat constructor)⟩
theorem sins16_no {at2 : Int} (hn : L.length = N) (h0 : 0 < N) (ha : at2 < top ∨ bot < at2) (hs : sat W (scP b s ⟨keeps, cols, top, bot, L⟩ :: H) w) :
    Calls Try.prog 16 #[.pointer (some ⟨b, 0, none⟩), .int .i64 at2, .int .i64 q, aV at_] w fun e w' => e = .returned (.int .i64 2) ∧ sat W (scP b s ⟨keeps, cols, top, bot, L⟩ :: H) w' := by
  obtain ⟨fg, bg, fl⟩ := at_
  obtain ⟨ps, g, p, HO, hs⟩ := sc_open' hn h0 hs
  have HW : Hid ((if at2 < top ∨ bot < at2 then (2 : Int) else 0) = 2) := Lib.hid (if_pos ha)
  clear hn ha
  go_enter Try.func16, Try.ntmps16
  go_wp2_with (first | (go_at_call 43; refine (within43 h0 (by (apply sk_from (hs := hs); repeat constructor))).mono ?_; clear hs; rintro e w ⟨rfl, hs⟩; rw [HW.out]) | ((with_reducible refine isl ?_); first | ((with_reducible refine wrap hs ?_); clear hs; (generalize w.heap.size = z5); intro w hs)))
  go_ret
  exact ⟨rfl, sc_close HO (by refine sb_from ?_ hs; repeat constructor)⟩
theorem sdel17_no {at2 : Int} (hn : L.length = N) (h0 : 0 < N) (ha : at2 < top ∨ bot < at2) (hs : sat W (scP b s ⟨keeps, cols, top, bot, L⟩ :: H) w) :
    Calls Try.prog 17 #[.pointer (some ⟨b, 0, none⟩), .int .i64 at2, .int .i64 q, aV at_] w fun e w' => e = .returned (.int .i64 2) ∧ sat W (scP b s ⟨keeps, cols, top, bot, L⟩ :: H) w' := by
  obtain ⟨fg, bg, fl⟩ := at_
  obtain ⟨ps, g, p, HO, hs⟩ := sc_open' hn h0 hs
  have HW : Hid ((if at2 < top ∨ bot < at2 then (2 : Int) else 0) = 2) := Lib.hid (if_pos ha)
  clear hn ha
  go_enter Try.func17, Try.ntmps17
  go_wp2_with (first | (go_at_call 43; refine (within43 h0 (by (apply sk_from (hs := hs); repeat constructor))).mono ?_; clear hs; rintro e w ⟨rfl, hs⟩; rw [HW.out]) | ((with_reducible refine isl ?_); first | ((with_reducible refine wrap hs ?_); clear hs; (generalize w.heap.size = z5); intro w hs)))
  go_ret
  exact ⟨rfl, sc_close HO (by refine sb_from ?_ hs; repeat constructor)⟩
theorem sup12_no (hn : L.length = N) (h0 : 0 < N) (hN : N ≤ 512) (ht : top = (f : Int)) (hb : bot = ((f + k : Nat) : Int) - 1) (hf : f + k ≤ N) (hk : 0 < k) (c0 : 1 ≤ cols) (c1 : cols ≤ 512) (hnx : 0 < nx) (hnb : nx + 512 ≤ 1000000) 
    (hs : sat W (scP b s ⟨false, cols, top, bot, L⟩ :: stP s most nx SL :: H) w) :
    Calls Try.prog 12 #[.pointer (some ⟨b, 0, none⟩), .int .i64 q, aV at_] w fun e w' => e = .returned (.int .i64 0) ∧ sat W (scP b s ⟨false, cols, top, bot, upL L f k (hld q k) (frL (hld q k) nx (frC cols at_))⟩ :: stP s most (nx + hld q k) SL :: H) w' := by
  obtain ⟨fg, bg, fl⟩ := at_
  obtain ⟨ps, g, p, HO, hs⟩ := sc_open' hn h0 hs
  subst ht
  have HH := Lib.hid (And.intro hb (And.intro hN (And.intro c1 hnb)))
  have hq : True := trivial
  clear hb hN c1 hnb hn
  go_enter Try.func12, Try.ntmps12
  go_upto_region 6 with (first | (go_at_call 37; refine (sready37 h0 (by (apply sk_from (hs := hs); repeat constructor))).mono ?_; clear hs; rintro e w ⟨rfl, hs⟩) | ((with_reducible refine isl ?_); first | ((with_reducible apply ldx); exact rfl; exact rfl; exact rfl; (exact hs.b0); exact rfl; kernel_rfl) | ((with_reducible refine wrap hs ?_); clear hs; (generalize w.heap.size = z5); intro w hs)))
  refine region_mix [([0, 1, 2, 3, 4, 5, 6, 7, 8, 9, 10, 11], [12])] [] hs (fun _ h => by (show sat W [cel b 46 [.pointer (some ⟨s, 0, none⟩), .bool false, .int .i64 cols, .slice (some ⟨g, 0, none⟩) N p, .int .i64 (f : Int), .int .i64 bot], cel z5 25 [.int .u32 fg, .int .u32 bg, .int .u16 fl]] _; refine sb_from ?_ h; repeat constructor)) (by kernel_rfl) (by kernel_rfl) (fun _ _ _ _ _ h => h) ?_
  simp only [segs, nths, nth, List.append_nil, List.nil_append, List.cons_append, List.map_cons, List.map_nil]
  refine seg_reads (fun _ h => by (show sat W [cel b 46 [.pointer (some ⟨s, 0, none⟩), .bool false, .int .i64 cols, .slice (some ⟨g, 0, none⟩) N p, .int .i64 (f : Int), .int .i64 bot], cel z5 25 [.int .u32 fg, .int .u32 bg, .int .u16 fl]] _; refine sb_from ?_ h; repeat constructor)) ?_; intro X f hne hf hcl; (try simp only [Act.put, List.setIfInBounds_toArray, List.set_cons_succ, List.set_cons_zero]); (repeat ((first | ((with_reducible apply ldsq (cs := [.int .u32 fg, .int .u32 bg, .int .u16 fl]) 3 (fun x => (hf x).b1)); exact rfl; exact rfl; exact rfl; exact row33; exact rfl; exact rfl) | ((with_reducible apply ldqx); exact rfl; exact rfl; exact rfl; (exact fun x => (hf x).b0); exact rfl; kernel_rfl) | go_big_quiet_step (fail)); (try simp only [Act.put, List.setIfInBounds_toArray, List.set_cons_succ, List.set_cons_zero]))); refine wpQuiet_nil ?_; clear hcl hf hne hs f X; intro w hs
  go_wp2_with ((go_at_call 40; refine (sup40_drop (at_ := ⟨fg, bg, fl⟩) (q := q) HO hf hk HH.out.1 HH.out.2.1 c0 HH.out.2.2.1 hnx HH.out.2.2.2  (by (apply sk_from (hs := hs); repeat constructor))).mono ?_; clear hs; rintro e w ⟨rfl, ps2, HO2, hs⟩))
  (refine seg_on hs (fun _ h => h) ?_ ?_)
  · exact fun _ h => by (show sat W [cel b 46 [.pointer (some ⟨s, 0, none⟩), .bool false, .int .i64 cols, .slice (some ⟨g, 0, none⟩) N p, .int .i64 (f : Int), .int .i64 bot], cel z5 25 [.int .u32 fg, .int .u32 bg, .int .u16 fl]] _; refine sb_from ?_ h; repeat constructor)
  clear hs; intro hs
  refine seg_last (fun _ h => by (show sat W [cel b 46 [.pointer (some ⟨s, 0, none⟩), .bool false, .int .i64 cols, .slice (some ⟨g, 0, none⟩) N p, .int .i64 (f : Int), .int .i64 bot], cel z5 25 [.int .u32 fg, .int .u32 bg, .int .u16 fl]] _; refine sb_from ?_ h; repeat constructor)) ?_; intro X f hne hf hcl; (try simp only [Act.put, List.setIfInBounds_toArray, List.set_cons_succ, List.set_cons_zero]); (repeat ((fail); (try simp only [Act.put, List.setIfInBounds_toArray, List.set_cons_succ, List.set_cons_zero]))); refine wpQuiet_nil ?_; clear hcl hf hne hs f X; intro w hs
  go_wp2_with fail
  go_ret
  exact ⟨rfl, sc_close HO2 (by refine sb_from ?_ hs; repeat constructor)⟩
theorem sup12_mid (hn : L.length = N) (h0 : 0 < N) (hN : N ≤ 512) (ht : top = (f : Int)) (hb : bot = ((f + k : Nat) : Int) - 1) (hf : f + k ≤ N) (hk : 0 < k) (c0 : 1 ≤ cols) (c1 : cols ≤ 512) (hnx : 0 < nx) (hnb : nx + 512 ≤ 1000000) (hf0 : 0 < f)
    (hs : sat W (scP b s ⟨true, cols, top, bot, L⟩ :: stP s most nx SL :: H) w) :
    Calls Try.prog 12 #[.pointer (some ⟨b, 0, none⟩), .int .i64 q, aV at_] w fun e w' => e = .returned (.int .i64 0) ∧ sat W (scP b s ⟨true, cols, top, bot, upL L f k (hld q k) (frL (hld q k) nx (frC cols at_))⟩ :: stP s most (nx + hld q k) SL :: H) w' := by
  obtain ⟨fg, bg, fl⟩ := at_
  obtain ⟨ps, g, p, HO, hs⟩ := sc_open' hn h0 hs
  subst ht
  have HH := Lib.hid (And.intro hb (And.intro hN (And.intro c1 hnb)))
  have g1 : ((f : Int) == 0) = false := beq_eq_false_iff_ne.2 (by omega)
  have g2 : decide ((f : Int) = 0) = false := decide_eq_false (by omega)
  have g3 : ¬ (f : Int) = 0 := by omega
  have g4 : ¬ f = 0 := by omega
  clear hb hN c1 hnb hn
  go_enter Try.func12, Try.ntmps12
  go_upto_region 6 with (first | (go_at_call 37; refine (sready37 h0 (by (apply sk_from (hs := hs); repeat constructor))).mono ?_; clear hs; rintro e w ⟨rfl, hs⟩) | ((with_reducible refine isl ?_); first | ((with_reducible apply ldx); exact rfl; exact rfl; exact rfl; (exact hs.b0); exact rfl; kernel_rfl) | ((with_reducible refine wrap hs ?_); clear hs; (generalize w.heap.size = z5); intro w hs)))
  refine region_mix [([0, 1, 2, 3, 4, 5, 6, 7, 8, 9, 10, 11], [12])] [] hs (fun _ h => by (show sat W [cel b 46 [.pointer (some ⟨s, 0, none⟩), .bool true, .int .i64 cols, .slice (some ⟨g, 0, none⟩) N p, .int .i64 (f : Int), .int .i64 bot], cel z5 25 [.int .u32 fg, .int .u32 bg, .int .u16 fl]] _; refine sb_from ?_ h; repeat constructor)) (by kernel_rfl) (by kernel_rfl) (fun _ _ _ _ _ h => h) ?_
  simp only [segs, nths, nth, List.append_nil, List.nil_append, List.cons_append, List.map_cons, List.map_nil]
  refine seg_reads (fun _ h => by (show sat W [cel b 46 [.pointer (some ⟨s, 0, none⟩), .bool true, .int .i64 cols, .slice (some ⟨g, 0, none⟩) N p, .int .i64 (f : Int), .int .i64 bot], cel z5 25 [.int .u32 fg, .int .u32 bg, .int .u16 fl]] _; refine sb_from ?_ h; repeat constructor)) ?_; intro X f hne hf hcl; (try simp only [Act.put, List.setIfInBounds_toArray, List.set_cons_succ, List.set_cons_zero]); (repeat ((first | ((with_reducible apply ldsq (cs := [.int .u32 fg, .int .u32 bg, .int .u16 fl]) 3 (fun x => (hf x).b1)); exact rfl; exact rfl; exact rfl; exact row33; exact rfl; exact rfl) | ((with_reducible apply ldqx); exact rfl; exact rfl; exact rfl; (exact fun x => (hf x).b0); exact rfl; kernel_rfl) | go_big_quiet_step (fail)); (try simp only [Act.put, List.setIfInBounds_toArray, List.set_cons_succ, List.set_cons_zero]))); refine wpQuiet_nil ?_; clear hcl hf hne hs f X; intro w hs
  go_wp2_with ((go_at_call 40; refine (sup40_drop (at_ := ⟨fg, bg, fl⟩) (q := q) HO hf hk HH.out.1 HH.out.2.1 c0 HH.out.2.2.1 hnx HH.out.2.2.2  (by (apply sk_from (hs := hs); repeat constructor))).mono ?_; clear hs; rintro e w ⟨rfl, ps2, HO2, hs⟩))
  (refine seg_on hs (fun _ h => h) ?_ ?_)
  · exact fun _ h => by (show sat W [cel b 46 [.pointer (some ⟨s, 0, none⟩), .bool true, .int .i64 cols, .slice (some ⟨g, 0, none⟩) N p, .int .i64 (f : Int), .int .i64 bot], cel z5 25 [.int .u32 fg, .int .u32 bg, .int .u16 fl]] _; refine sb_from ?_ h; repeat constructor)
  clear hs; intro hs
  refine seg_last (fun _ h => by (show sat W [cel b 46 [.pointer (some ⟨s, 0, none⟩), .bool true, .int .i64 cols, .slice (some ⟨g, 0, none⟩) N p, .int .i64 (f : Int), .int .i64 bot], cel z5 25 [.int .u32 fg, .int .u32 bg, .int .u16 fl]] _; refine sb_from ?_ h; repeat constructor)) ?_; intro X f hne hf hcl; (try simp only [Act.put, List.setIfInBounds_toArray, List.set_cons_succ, List.set_cons_zero]); (repeat ((fail); (try simp only [Act.put, List.setIfInBounds_toArray, List.set_cons_succ, List.set_cons_zero]))); refine wpQuiet_nil ?_; clear hcl hf hne hs f X; intro w hs
  go_wp2_with fail
  go_ret
  exact ⟨rfl, sc_close HO2 (by refine sb_from ?_ hs; repeat constructor)⟩
theorem sup12_push (hn : L.length = N) (h0 : 0 < N) (hN : N ≤ 512) (ht : top = (f : Int)) (hb : bot = ((f + k : Nat) : Int) - 1) (hf : f + k ≤ N) (hk : 0 < k) (c0 : 1 ≤ cols) (c1 : cols ≤ 512) (hnx : 0 < nx) (hnb : nx + 512 ≤ 1000000) (hf0 : f = 0) (ok : LOK L) (idk : IDK nx L) (hmo : most ≤ 10000)
    (hs : sat W (scP b s ⟨true, cols, top, bot, L⟩ :: stP s most nx SL :: H) w) :
    Calls Try.prog 12 #[.pointer (some ⟨b, 0, none⟩), .int .i64 q, aV at_] w fun e w' => e = .returned (.int .i64 0) ∧ sat W (scP b s ⟨true, cols, top, bot, upL L f k (hld q k) (frL (hld q k) nx (frC cols at_))⟩ :: stP s most (nx + hld q k) (pushs most SL ((L.drop f).take (hld q k))) :: H) w' := by
  obtain ⟨fg, bg, fl⟩ := at_
  obtain ⟨ps, g, p, HO, hs⟩ := sc_open' hn h0 hs
  subst ht
  have HH := Lib.hid (And.intro hb (And.intro hN (And.intro c1 hnb)))
  subst hf0
  clear hb hN c1 hnb hn
  go_enter Try.func12, Try.ntmps12
  go_upto_region 6 with (first | (go_at_call 37; refine (sready37 h0 (by (apply sk_from (hs := hs); repeat constructor))).mono ?_; clear hs; rintro e w ⟨rfl, hs⟩) | ((with_reducible refine isl ?_); first | ((with_reducible apply ldx); exact rfl; exact rfl; exact rfl; (exact hs.b0); exact rfl; kernel_rfl) | ((with_reducible refine wrap hs ?_); clear hs; (generalize w.heap.size = z5); intro w hs)))
  refine region_mix [([0, 1, 2, 3, 4, 5, 6, 7, 8, 9, 10, 11], [12])] [] hs (fun _ h => by (show sat W [cel b 46 [.pointer (some ⟨s, 0, none⟩), .bool true, .int .i64 cols, .slice (some ⟨g, 0, none⟩) N p, .int .i64 ((0 : Nat) : Int), .int .i64 bot], cel z5 25 [.int .u32 fg, .int .u32 bg, .int .u16 fl]] _; refine sb_from ?_ h; repeat constructor)) (by kernel_rfl) (by kernel_rfl) (fun _ _ _ _ _ h => h) ?_
  simp only [segs, nths, nth, List.append_nil, List.nil_append, List.cons_append, List.map_cons, List.map_nil]
  refine seg_reads (fun _ h => by (show sat W [cel b 46 [.pointer (some ⟨s, 0, none⟩), .bool true, .int .i64 cols, .slice (some ⟨g, 0, none⟩) N p, .int .i64 ((0 : Nat) : Int), .int .i64 bot], cel z5 25 [.int .u32 fg, .int .u32 bg, .int .u16 fl]] _; refine sb_from ?_ h; repeat constructor)) ?_; intro X f hne hf hcl; (try simp only [Act.put, List.setIfInBounds_toArray, List.set_cons_succ, List.set_cons_zero]); (repeat ((first | ((with_reducible apply ldsq (cs := [.int .u32 fg, .int .u32 bg, .int .u16 fl]) 3 (fun x => (hf x).b1)); exact rfl; exact rfl; exact rfl; exact row33; exact rfl; exact rfl) | ((with_reducible apply ldqx); exact rfl; exact rfl; exact rfl; (exact fun x => (hf x).b0); exact rfl; kernel_rfl) | go_big_quiet_step (fail)); (try simp only [Act.put, List.setIfInBounds_toArray, List.set_cons_succ, List.set_cons_zero]))); refine wpQuiet_nil ?_; clear hcl hf hne hs f X; intro w hs
  go_wp2_with ((go_at_call 40; refine (sup40_push (f := 0) (at_ := ⟨fg, bg, fl⟩) (q := q) HO hf hk HH.out.1 HH.out.2.1 c0 HH.out.2.2.1 hnx HH.out.2.2.2 ok idk hmo (by (apply sk_from (hs := hs); repeat constructor))).mono ?_; clear hs; rintro e w ⟨rfl, ps2, HO2, hs⟩))
  (refine seg_on hs (fun _ h => h) ?_ ?_)
  · exact fun _ h => by (show sat W [cel b 46 [.pointer (some ⟨s, 0, none⟩), .bool true, .int .i64 cols, .slice (some ⟨g, 0, none⟩) N p, .int .i64 ((0 : Nat) : Int), .int .i64 bot], cel z5 25 [.int .u32 fg, .int .u32 bg, .int .u16 fl]] _; refine sb_from ?_ h; repeat constructor)
  clear hs; intro hs
  refine seg_last (fun _ h => by (show sat W [cel b 46 [.pointer (some ⟨s, 0, none⟩), .bool true, .int .i64 cols, .slice (some ⟨g, 0, none⟩) N p, .int .i64 ((0 : Nat) : Int), .int .i64 bot], cel z5 25 [.int .u32 fg, .int .u32 bg, .int .u16 fl]] _; refine sb_from ?_ h; repeat constructor)) ?_; intro X f hne hf hcl; (try simp only [Act.put, List.setIfInBounds_toArray, List.set_cons_succ, List.set_cons_zero]); (repeat ((fail); (try simp only [Act.put, List.setIfInBounds_toArray, List.set_cons_succ, List.set_cons_zero]))); refine wpQuiet_nil ?_; clear hcl hf hne hs f X; intro w hs
  go_wp2_with fail
  go_ret
  exact ⟨rfl, sc_close HO2 (by refine sb_from ?_ hs; repeat constructor)⟩
end
end Go.Proofs.Ytdcagaaanbgcoaa
namespace Go.Proofs.Ytdcagaaanbgcoaa
open Go.RowKit Go.Mem Go.Cells Go.Lines
variable {W w : World} {H : List HProp}
attribute [local irreducible] rowTy oneTy World.setCell World.setCells World.alloc World.drew World.drewN Calls sat cel own blk old wpQuiet wpList cmb cmb1 rwP cls rws wi wh fst_ World.rangeAt lrw lnP stP lsP dsP lvs frL downL upL pushs
section
variable {b s N cols most : Nat} {keeps : Bool} {top bot nx q : Int} {L SL : List LN} {at_ : At} {f k : Nat}
theorem sc_mk {n p : Nat} {a : Option Addr} (hn : L.length = n) (hs : sat W (cel b 46 [.pointer (some ⟨s, 0, none⟩), .bool keeps, .int .i64 cols, .slice a n p, .int .i64 top, .int .i64 bot] :: lnP 81 96 (.slice a n p) L :: H) w) : sat W (scP b s ⟨keeps, cols, top, bot, L⟩ :: H) w := by
  obtain ⟨ps, h1, h2, hs⟩ := ln_open hn hs.b1
  exact sc_close (Lib.hid ⟨h1, h2⟩) (by refine sb_from ?_ hs; repeat constructor)
/-- Margins that may be. -/
def MOK (n : Nat) (t b : Int) : Prop := (t = 0 ∧ b = (n : Int) - 1) ∨ (0 ≤ t ∧ t < b ∧ b < (n : Int))
theorem sset9 {t2 b2 : Int} {n p : Nat} {a : Option Addr} (h : 0 < n) (h5 : n ≤ 512) (hP : MOK n t2 b2) (hs : sat W (cel b 46 [.pointer (some ⟨s, 0, none⟩), .bool keeps, .int .i64 cols, .slice a n p, .int .i64 top, .int .i64 bot] :: H) w) :
    Calls Try.prog 9 #[.pointer (some ⟨b, 0, none⟩), .int .i64 t2, .int .i64 b2] w fun e w' => e = .returned (.int .i64 0) ∧ sat W (cel b 46 [.pointer (some ⟨s, 0, none⟩), .bool keeps, .int .i64 cols, .slice a n p, .int .i64 t2, .int .i64 b2] :: H) w' := by
  unfold MOK at hP
  by_cases hw : t2 = 0 ∧ b2 = (n : Int) - 1
  · obtain ⟨rfl, hb⟩ := hw
    have f1 : (b2 == (n : Int) - 1) = true := beq_iff_eq.2 hb
    have f2 : decide (b2 = (n : Int) - 1) = true := decide_eq_true hb
    clear hb hP
    go_enter Try.func9, Try.ntmps9
    go_wp2_with (first | (go_at_call 20; refine (srows20 h (by (apply sk_from (hs := hs); repeat constructor))).mono ?_; clear hs; rintro e w ⟨rfl, hs⟩) | (go_at_call 37; refine (sready37 h (by (apply sk_from (hs := hs); repeat constructor))).mono ?_; clear hs; rintro e w ⟨rfl, hs⟩) | ((with_reducible refine isl ?_); first | ((with_reducible apply stx); exact rfl; exact rfl; exact rfl; exact hs.b0; exact rfl; exact rfl; exact rfl; kernel_rfl; exact rfl; clear hs; intro w hs)))
    go_ret
    exact ⟨rfl, by refine sb_from ?_ hs; repeat constructor⟩
  · have k1 : decide (t2 < 0) = false := decide_eq_false (by omega)
    have k2 : decide (b2 ≤ t2) = false := decide_eq_false (by omega)
    have k3 : decide ((n : Int) ≤ b2) = false := decide_eq_false (by omega)
    by_cases hz : t2 = 0
    · have f1 : (b2 == (n : Int) - 1) = false := beq_eq_false_iff_ne.2 (fun e => hw ⟨hz, e⟩)
      have f2 : decide (b2 = (n : Int) - 1) = false := decide_eq_false (fun e => hw ⟨hz, e⟩)
      subst hz
      clear hw hP
      go_enter Try.func9, Try.ntmps9
      go_wp2_with (first | (go_at_call 20; refine (srows20 h (by (apply sk_from (hs := hs); repeat constructor))).mono ?_; clear hs; rintro e w ⟨rfl, hs⟩) | (go_at_call 37; refine (sready37 h (by (apply sk_from (hs := hs); repeat constructor))).mono ?_; clear hs; rintro e w ⟨rfl, hs⟩) | ((with_reducible refine isl ?_); first | ((with_reducible apply ldx); exact rfl; exact rfl; exact rfl; exact hs.b0; exact rfl; kernel_rfl) | ((with_reducible apply stx); exact rfl; exact rfl; exact rfl; exact hs.b0; exact rfl; exact rfl; exact rfl; kernel_rfl; exact rfl; clear hs; intro w hs)))
      go_ret
      exact ⟨rfl, by refine sb_from ?_ hs; repeat constructor⟩
    · have f1 : (t2 == 0) = false := beq_eq_false_iff_ne.2 hz
      have f2 : decide (t2 = 0) = false := decide_eq_false hz
      clear hw hP
      go_enter Try.func9, Try.ntmps9
      go_wp2_with (first | (go_at_call 37; refine (sready37 h (by (apply sk_from (hs := hs); repeat constructor))).mono ?_; clear hs; rintro e w ⟨rfl, hs⟩) | ((with_reducible refine isl ?_); first | ((with_reducible apply ldx); exact rfl; exact rfl; exact rfl; exact hs.b0; exact rfl; kernel_rfl) | ((with_reducible apply stx); exact rfl; exact rfl; exact rfl; exact hs.b0; exact rfl; exact rfl; exact rfl; kernel_rfl; exact rfl; clear hs; intro w hs)))
      go_ret
      exact ⟨rfl, by refine sb_from ?_ hs; repeat constructor⟩
theorem sset9_no {t2 b2 : Int} {n p : Nat} {a : Option Addr} (h : 0 < n) (h5 : n ≤ 512) (hP : ¬ MOK n t2 b2) (hs : sat W (cel b 46 [.pointer (some ⟨s, 0, none⟩), .bool keeps, .int .i64 cols, .slice a n p, .int .i64 top, .int .i64 bot] :: H) w) :
    Calls Try.prog 9 #[.pointer (some ⟨b, 0, none⟩), .int .i64 t2, .int .i64 b2] w fun e w' => e = .returned (.int .i64 2) ∧ sat W (cel b 46 [.pointer (some ⟨s, 0, none⟩), .bool keeps, .int .i64 cols, .slice a n p, .int .i64 top, .int .i64 bot] :: H) w' := by
  unfold MOK at hP
  have hw : ¬ (t2 = 0 ∧ b2 = (n : Int) - 1) := fun h => hP (.inl h)
  have hx : ¬ (0 ≤ t2 ∧ t2 < b2 ∧ b2 < (n : Int)) := fun h => hP (.inr h)
  clear hP
  by_cases hz : t2 = 0
  · have f1 : (b2 == (n : Int) - 1) = false := beq_eq_false_iff_ne.2 (fun e => hw ⟨hz, e⟩)
    have f2 : decide (b2 = (n : Int) - 1) = false := decide_eq_false (fun e => hw ⟨hz, e⟩)
    subst hz
    clear hw
    by_cases h2 : b2 ≤ 0
    · have k2 : decide (b2 ≤ 0) = true := decide_eq_true h2
      go_enter Try.func9, Try.ntmps9
      go_wp2_with (first | (go_at_call 20; refine (srows20 h (by (apply sk_from (hs := hs); repeat constructor))).mono ?_; clear hs; rintro e w ⟨rfl, hs⟩) | (go_at_call 37; refine (sready37 h (by (apply sk_from (hs := hs); repeat constructor))).mono ?_; clear hs; rintro e w ⟨rfl, hs⟩))
      go_ret
      exact ⟨rfl, by refine sb_from ?_ hs; repeat constructor⟩
    · have k2 : decide (b2 ≤ 0) = false := decide_eq_false h2
      have k3 : decide ((n : Int) ≤ b2) = true := decide_eq_true (by omega)
      go_enter Try.func9, Try.ntmps9
      go_wp2_with (first | (go_at_call 20; refine (srows20 h (by (apply sk_from (hs := hs); repeat constructor))).mono ?_; clear hs; rintro e w ⟨rfl, hs⟩) | (go_at_call 37; refine (sready37 h (by (apply sk_from (hs := hs); repeat constructor))).mono ?_; clear hs; rintro e w ⟨rfl, hs⟩) | ((with_reducible refine isl ?_); first | ((with_reducible apply ldx); exact rfl; exact rfl; exact rfl; exact hs.b0; exact rfl; kernel_rfl)))
      go_ret
      exact ⟨rfl, by refine sb_from ?_ hs; repeat constructor⟩
  · have f1 : (t2 == 0) = false := beq_eq_false_iff_ne.2 hz
    have f2 : decide (t2 = 0) = false := decide_eq_false hz
    clear hw
    by_cases h1 : t2 < 0
    · have k1 : decide (t2 < 0) = true := decide_eq_true h1
      go_enter Try.func9, Try.ntmps9
      go_wp2_with ((go_at_call 37; refine (sready37 h (by (apply sk_from (hs := hs); repeat constructor))).mono ?_; clear hs; rintro e w ⟨rfl, hs⟩))
      go_ret
      exact ⟨rfl, by refine sb_from ?_ hs; repeat constructor⟩
    · have k1 : decide (t2 < 0) = false := decide_eq_false h1
      by_cases h2 : b2 ≤ t2
      · have k2 : decide (b2 ≤ t2) = true := decide_eq_true h2
        go_enter Try.func9, Try.ntmps9
        go_wp2_with ((go_at_call 37; refine (sready37 h (by (apply sk_from (hs := hs); repeat constructor))).mono ?_; clear hs; rintro e w ⟨rfl, hs⟩))
        go_ret
        exact ⟨rfl, by refine sb_from ?_ hs; repeat constructor⟩
      · have k2 : decide (b2 ≤ t2) = false := decide_eq_false h2
        have k3 : decide ((n : Int) ≤ b2) = true := decide_eq_true (by omega)
        go_enter Try.func9, Try.ntmps9
        go_wp2_with (first | (go_at_call 37; refine (sready37 h (by (apply sk_from (hs := hs); repeat constructor))).mono ?_; clear hs; rintro e w ⟨rfl, hs⟩) | ((with_reducible refine isl ?_); first | ((with_reducible apply ldx); exact rfl; exact rfl; exact rfl; exact hs.b0; exact rfl; kernel_rfl)))
        go_ret
        exact ⟨rfl, by refine sb_from ?_ hs; repeat constructor⟩
theorem snew18 (hN : 1 ≤ N) (hN5 : N ≤ 512) (c0 : 1 ≤ cols) (c1 : cols ≤ 512) (hnx : 0 < nx) (hnb : nx + 512 ≤ 1000000) (hs : sat W (stP s most nx SL :: H) w) :
    Calls Try.prog 18 #[.int .i64 (N : Int), .int .i64 (cols : Int), .pointer (some ⟨s, 0, none⟩), .bool keeps] w fun e w' => ∃ b, e = .returned (.tuple #[.pointer (some ⟨b, 0, none⟩), .int .i64 0]) ∧ sat W (scP b s ⟨keeps, cols, 0, (N : Int) - 1, frL N nx (frC cols At.z)⟩ :: stP s most (nx + N) SL :: H) w' := by
  have HN := Lib.hid (show decide (1 ≤ (N : Int) ∧ (N : Int) ≤ 512) = true from decide_eq_true (by omega))
  have HC := Lib.hid (show decide (1 ≤ (cols : Int) ∧ (cols : Int) ≤ 512) = true from decide_eq_true (by omega))
  have hz : ¬ nx = 0 := by omega
  have hz2 : (nx == 0) = false := beq_eq_false_iff_ne.2 hz
  go_enter Try.func18, Try.ntmps18
  go_wp2_with (first | (go_at_call 44; refine (may44 (x := (N : Int)) hs).mono ?_; clear hs; rintro e w ⟨rfl, hs⟩; rw [HN.out]) | (go_at_call 44; refine (may44 (x := (cols : Int)) hs).mono ?_; clear hs; rintro e w ⟨rfl, hs⟩; rw [HC.out]) | (go_at_call 28; refine (next11_st hnx (by (apply sk_from (hs := hs); repeat constructor))).mono ?_; clear hs; rintro e w ⟨rfl, hs⟩) | (go_at_call 45; refine (fresh45 (n := N) (nx := nx) (cols := cols) (s := s) (most := most) (SL := SL) (at_ := At.z) hN5 c0 c1 hnx (by omega) (by (apply sk_from (hs := hs); repeat constructor))).mono ?_; clear hs; rintro e w ⟨g, rfl, hs⟩) | ((with_reducible refine isl ?_); first | ((with_reducible apply stx); exact rfl; exact rfl; exact rfl; (exact hs.b1); exact rfl; exact rfl; exact rfl; kernel_rfl; exact rfl; clear hs; intro w hs) | ((with_reducible refine wrap hs ?_); clear hs; (generalize w.heap.size = z9); intro w hs)))
  refine end_ret rfl (results_tmp2 rfl _ _ _) ⟨z9, rfl, ?_⟩
  exact sc_mk (frL_len _ _ _) (by refine sb_from ?_ hs; repeat constructor)
end
end Go.Proofs.Ytdcagaaanbgcoaa
namespace Go.Proofs.Ytdcagaaanbgcoaa
open Go.RowKit Go.Mem Go.Cells Go.Lines
variable {W w : World} {H : List HProp}
theorem range_drop {b off k : Nat} {xs : List Value} (h : w.rangeAt b off xs) : w.rangeAt b (off + k) (xs.drop k) := fun j u hj => by
  rw [List.getElem?_drop] at hj
  rw [Nat.add_assoc]
  exact h _ _ hj
attribute [local irreducible] rowTy oneTy World.setCell World.setCells World.alloc World.drew World.drewN Calls sat cel own blk old wpQuiet wpList cmb cmb1 rwP cls rws wi wh fst_ World.rangeAt lrw lnP stP lsP dsP lvs frL downL upL pushs
set_option maxRecDepth 20000 in
theorem sclone46 {g N p k c : Nat} {ps : List PL} (hk : k < N) (hps : ps.length = N) (hN : N ≤ 512) (hs : sat W (own 81 2 (.slice (some ⟨g, 0, none⟩) N p) N (lvs ps).flatten :: H) w) :
    Calls Try.prog 46 #[.slice (some ⟨g, k * 2, none⟩) (N - k) c] w fun e w' => ∃ g2 c2, e = .returned (.slice (some ⟨g2, 0, none⟩) (N - k) c2) ∧ sat W (own 81 2 (.slice (some ⟨g2, 0, none⟩) (N - k) c2) (N - k) (lvs (ps.drop k)).flatten :: own 81 2 (.slice (some ⟨g, 0, none⟩) N p) N (lvs ps).flatten :: H) w' := by
  have HR : Hid (∀ w', sat W (own 81 2 (.slice (some ⟨g, 0, none⟩) N p) N (lvs ps).flatten :: H) w' → Rds w' (.slice (some ⟨g, k * 2, none⟩) (N - k) c) (N - k) (lvs (ps.drop k)).flatten) := Lib.hid fun w' h => by
    refine .inr ⟨g, k * 2, c, rfl, ?_⟩
    rcases h.own_rds with ⟨e, _⟩ | ⟨b', off', c', e, hr⟩
    · cases e
    · cases e
      have h1 := range_drop (k := k * 2) hr
      rw [Nat.zero_add, flat_drop (lvs ps) k (lvs2 ps), lvs_drop] at h1
      exact h1
  have HL : Hid ((lvs (ps.drop k)).flatten.length = (N - k) * 2) := Lib.hid (by rw [lvs_size, List.length_drop, hps])
  have hb : (N - k) * 16 ≤ 140737488355328 := by omega
  have hm : N - k ≤ maxLen := by unfold maxLen; omega
  have HB := Lib.hid (And.intro hb hm)
  have h0 : 0 < N - k := by omega
  clear hb hm hps hN
  have hnil := Go.Lib.run_eql_slice_nil (P := Try.prog) w 44 81 (some ⟨g, k * 2, none⟩) (N - k) c 0 0 Try.underlying44
  go_enter Try.func46, Try.ntmps46
  go_wp2_with (first | (apply apx0 hs.b0; exact rfl; exact rfl; exact rfl; exact rfl; exact slty44; exact HR.out _ hs.drop; exact HL.out; exact lvs_one; exact HB.out.1; exact HB.out.2; clear hs; intro a5 c5 w hs) | ((with_reducible refine isl ?_); first | ((with_reducible refine wrap hs ?_); clear hs; intro w hs)))
  obtain ⟨g2, rfl⟩ := own_ptr h0 hs
  go_ret
  exact ⟨g2, c5, rfl, hs⟩
/-- A line's row, resized. -/
def rsz (m : Nat) (x : PL) : PL := ⟨x.id, x.b, resG x.l m⟩
def rszL (m : Nat) (x : LN) : LN := (x.1, resG x.2 m)
theorem lvs_rsz (m k : Nat) (ps : List PL) : lvs ((ps.take k).map (rsz m) ++ ps.drop k) = lvs ps := by
  have e : lvs ((ps.take k).map (rsz m)) = lvs (ps.take k) := by unfold lvs; rw [List.map_map]; rfl
  rw [lvs_app, e, ← lvs_app, List.take_append_drop]
theorem rsz_set {m k : Nat} {ps : List PL} {x : PL} (hx : ps[k]? = some x) : ((ps.take k).map (rsz m) ++ ps.drop k).set k (rsz m x) = (ps.take (k + 1)).map (rsz m) ++ ps.drop (k + 1) := by
  have hk := (List.getElem?_eq_some_iff.1 hx).1
  have hl : ((ps.take k).map (rsz m)).length = k := by rw [List.length_map, List.length_take]; omega
  have e : ps.drop k = x :: ps.drop (k + 1) := by rw [List.drop_eq_getElem_cons hk, (List.getElem?_eq_some_iff.1 hx).2]
  rw [e, List.take_add_one, hx]
  have h1 : ((ps.take k).map (rsz m) ++ x :: ps.drop (k + 1)).set k (rsz m x) = (ps.take k).map (rsz m) ++ rsz m x :: ps.drop (k + 1) := by
    rw [List.set_append_right _ _ (by omega), hl, Nat.sub_self]
    rfl
  rw [h1]
  simp
theorem rsz_at {m k : Nat} {ps : List PL} {x : PL} (hx : ps[k]? = some x) : ((ps.take k).map (rsz m) ++ ps.drop k)[k]? = some x := by
  have hk := (List.getElem?_eq_some_iff.1 hx).1
  rw [List.getElem?_append_right (by rw [List.length_map, List.length_take]; omega), List.getElem?_drop, List.length_map, List.length_take, show k + (k - min k ps.length) = k from by omega]
  exact hx
theorem rsz_map (m : Nat) (ps : List PL) : (ps.map (rsz m)).map PL.ln = (ps.map PL.ln).map (rszL m) := by rw [List.map_map, List.map_map]; rfl
end Go.Proofs.Ytdcagaaanbgcoaa
