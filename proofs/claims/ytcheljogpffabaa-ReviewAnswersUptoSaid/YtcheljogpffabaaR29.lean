/- Law 21: the document's commands. -/
import Derived.Test.YtcheljogpffabaaSf
import Derived.Test.YtcheljogpffabaaR27
namespace Go.Proofs.Ytcheljogpffabaa
open Go.RowKit Go.Mem Go.Words Go.Deep Go.Rev
variable {W w : World} {H : List HProp} {g : Gm} {n m : Nat}
attribute [local irreducible] rowTy oneTy World.setCell World.setCells World.alloc World.drew World.drewN Calls sat cel own blk old wpQuiet wpList tx onP
set_option maxHeartbeats 4000000 in
set_option maxRecDepth 20000 in
theorem step42_1 {a y x : Nat} {id : Int} {e2 : Bool} {y2 x2 : Nat} (hs : sat W (cel a 40 [.int .i64 id, .int .i64 y, .int .i64 x] :: H) w) (hg : GS W H g) (hF : Fit g.gd n m) (hy : y < n) (hx : x < m) (hid : g.gd.id y = id) (ho : aft y x (goTo g.gd y x 1) = (y2, x2, e2)) :
    Calls Try.prog 42 #[.pointer (some ⟨a, 0, none⟩), .agg (gV g).toArray, .int .u8 1] w fun e' w' => e' = .returned (.bool (!e2)) ∧ sat W (cel a 40 [.int .i64 (g.gd.id y2), .int .i64 y2, .int .i64 x2] :: H) w' := by
  have HID := Lib.hid hid
  clear hid
  by_cases h0 : x = 0
  · skip
    have he : (y, x, true) = (y2, x2, e2) := by rw [← ho]; simp [goTo, aft, h0]
    cases he
    clear ho
    have hn := (hg.n_eq hF).1
    have h1 := hF.n1
    have h2 := hF.n12
    have h3 := hF.m1
    have h4 := hF.m600
    obtain ⟨b, off, b0, o0, c0, _, eb, hc0, _⟩ := hg.at_ hF hs.drop (y := 0) (by omega)
    have HC0 := Lib.hid hc0
    have HG := Lib.hid hg
    have HF := Lib.hid hF
    clear hc0 hg hF
    obtain ⟨aR, n', cR, aI, nI, cI, R, I, cy, cx, v1, v2, v3, v4, v5, v6, v7, v8⟩ := g
    obtain rfl : n = n' := hn.symm
    obtain rfl : aR = _ := eb
    have hy9 : (y : Int) < (n : Int) := by omega
    have hx9 : (x : Int) < (m : Int) := by omega
    have h19 : (0 : Int) < (n : Int) := by omega
    clear hy hx
    have hx0 : ((x : Int) == 0) = true := by simp [h0]
    have hx1 : decide (x = 0) = true := decide_eq_true h0
    clear h0
    go_enter Try.func42, Try.ntmps42
    go_upto_region 1 with fail
    have hs1 := hs.made (T := 34) (l := gV ⟨some ⟨b, off, none⟩, n, cR, aI, nI, cI, R, I, cy, cx, v1, v2, v3, v4, v5, v6, v7, v8⟩)
    clear hs
    have hs := hs1
    clear hs1
    generalize World.alloc w _ = w1 at hs ⊢
    generalize w.heap.size = zg at hs ⊢
    go_wp2_with (first | ((with_reducible refine isl ?_); first | ((with_reducible apply ldx); exact rfl; exact rfl; exact rfl; (first | exact hs.b0 | exact hs.b1); exact rfl; kernel_rfl) | ((with_reducible apply stx); exact rfl; exact rfl; exact rfl; (first | exact hs.b0 | exact hs.b1); exact rfl; exact rfl; exact rfl; kernel_rfl; exact rfl; clear hs; intro w hs) | ((with_reducible apply stcx); exact rfl; exact rfl; exact rfl; (first | exact hs.b0 | exact hs.b1); exact rfl; exact rfl; kernel_rfl; exact rfl; clear hs; intro w hs) | ((with_reducible refine wrap hs ?_); clear hs; intro w hs) | ((with_reducible refine wrapn hs ?_); clear hs; intro w hs) | ((with_reducible refine wrapd hs ?_); clear hs; intro w hs)))
    go_ret
    rw [HID.out]
    exact ⟨rfl, by refine sb_from ?_ hs; repeat constructor⟩
  · skip
    obtain ⟨⟨p1, p2⟩, hp⟩ : ∃ p, heldP g.gd (y : Int) ((x : Int) - 1) = p := ⟨_, rfl⟩
    have he : (p1, p2, false) = (y2, x2, e2) := by rw [← ho]; simp [goTo, aft, hp, h0]
    cases he
    have HP := Lib.hid hp
    clear hp ho
    have hn := (hg.n_eq hF).1
    have h1 := hF.n1
    have h2 := hF.n12
    have h3 := hF.m1
    have h4 := hF.m600
    obtain ⟨b, off, b0, o0, c0, _, eb, hc0, _⟩ := hg.at_ hF hs.drop (y := 0) (by omega)
    have HC0 := Lib.hid hc0
    have HG := Lib.hid hg
    have HF := Lib.hid hF
    clear hc0 hg hF
    obtain ⟨aR, n', cR, aI, nI, cI, R, I, cy, cx, v1, v2, v3, v4, v5, v6, v7, v8⟩ := g
    obtain rfl : n = n' := hn.symm
    obtain rfl : aR = _ := eb
    have hy9 : (y : Int) < (n : Int) := by omega
    have hx9 : (x : Int) < (m : Int) := by omega
    have h19 : (0 : Int) < (n : Int) := by omega
    clear hy hx
    have hx0 : ((x : Int) == 0) = false := beq_no (by omega)
    have hx1 : decide (x = 0) = false := decide_eq_false h0
    clear h0
    go_enter Try.func42, Try.ntmps42
    go_upto_region 1 with fail
    have hs1 := hs.made (T := 34) (l := gV ⟨some ⟨b, off, none⟩, n, cR, aI, nI, cI, R, I, cy, cx, v1, v2, v3, v4, v5, v6, v7, v8⟩)
    clear hs
    have hs := hs1
    clear hs1
    generalize World.alloc w _ = w1 at hs ⊢
    generalize w.heap.size = zg at hs ⊢
    go_upto_region 6 with (first | ((with_reducible refine isl ?_); first | ((with_reducible apply ldx); exact rfl; exact rfl; exact rfl; (first | exact hs.b0 | exact hs.b1); exact rfl; kernel_rfl) | ((with_reducible apply stx); exact rfl; exact rfl; exact rfl; (first | exact hs.b0 | exact hs.b1); exact rfl; exact rfl; exact rfl; kernel_rfl; exact rfl; clear hs; intro w hs) | ((with_reducible apply stcx); exact rfl; exact rfl; exact rfl; (first | exact hs.b0 | exact hs.b1); exact rfl; exact rfl; kernel_rfl; exact rfl; clear hs; intro w hs) | ((with_reducible refine wrap hs ?_); clear hs; intro w hs) | ((with_reducible refine wrapn hs ?_); clear hs; intro w hs) | ((with_reducible refine wrapd hs ?_); clear hs; intro w hs)))
    ((try simp only [Act.put, List.setIfInBounds_toArray, List.set_cons_succ, List.set_cons_zero]); refine region_tail 11 hs (by kernel_rfl) (by kernel_rfl) ?_; simp only [List.take_succ_cons, List.take_zero, List.drop_succ_cons, List.drop_zero]; clear hs; intro w hs; (repeat ((first | (first | (apply ldst 12 hs.b0; exact rfl; exact rfl; exact rfl; exact row34; exact rfl; exact rfl) | (apply ldst 12 hs.b1; exact rfl; exact rfl; exact rfl; exact row34; exact rfl; exact rfl) | (apply ldst 12 hs.b2; exact rfl; exact rfl; exact rfl; exact row34; exact rfl; exact rfl)) | ((with_reducible apply ldt hs.b0); exact rfl; exact rfl; exact rfl; exact rfl; kernel_rfl) | ((with_reducible apply ldt hs.b1); exact rfl; exact rfl; exact rfl; exact rfl; kernel_rfl) | go_big_quiet_step (fail)); (try simp only [Act.put, List.setIfInBounds_toArray, List.set_cons_succ, List.set_cons_zero]))); refine wpQuiet_nil ?_)
    go_wp2_with (first | (go_at_call 25; first | (refine (put25 (g := ⟨some ⟨b, off, none⟩, n, cR, aI, nI, cI, R, I, cy, cx, v1, v2, v3, v4, v5, v6, v7, v8⟩) (py := y) (px := (x : Int) - 1) hs.b0 (by (repeat first | exact HG.out | apply GS.more)) HF.out HP.out).mono ?_; clear hs; rintro e w ⟨rfl, hs⟩) | (refine (put25 (g := ⟨some ⟨b, off, none⟩, n, cR, aI, nI, cI, R, I, cy, cx, v1, v2, v3, v4, v5, v6, v7, v8⟩) (py := y) (px := (x : Int) - 1) hs.b1 (by (repeat first | exact HG.out | apply GS.more)) HF.out HP.out).mono ?_; clear hs; rintro e w ⟨rfl, hs⟩) | (refine (put25 (g := ⟨some ⟨b, off, none⟩, n, cR, aI, nI, cI, R, I, cy, cx, v1, v2, v3, v4, v5, v6, v7, v8⟩) (py := y) (px := (x : Int) - 1) hs.b2 (by (repeat first | exact HG.out | apply GS.more)) HF.out HP.out).mono ?_; clear hs; rintro e w ⟨rfl, hs⟩)) | ((with_reducible refine isl ?_); first | ((with_reducible apply ldx); exact rfl; exact rfl; exact rfl; (first | exact hs.b0 | exact hs.b1); exact rfl; kernel_rfl) | ((with_reducible apply stx); exact rfl; exact rfl; exact rfl; (first | exact hs.b0 | exact hs.b1); exact rfl; exact rfl; exact rfl; kernel_rfl; exact rfl; clear hs; intro w hs) | ((with_reducible apply stcx); exact rfl; exact rfl; exact rfl; (first | exact hs.b0 | exact hs.b1); exact rfl; exact rfl; kernel_rfl; exact rfl; clear hs; intro w hs) | ((with_reducible refine wrap hs ?_); clear hs; intro w hs) | ((with_reducible refine wrapn hs ?_); clear hs; intro w hs) | ((with_reducible refine wrapd hs ?_); clear hs; intro w hs)))
    go_ret
    exact ⟨rfl, by refine sb_from ?_ hs; repeat constructor⟩

set_option maxHeartbeats 4000000 in
set_option maxRecDepth 20000 in
theorem step42_3 {a y x : Nat} {id : Int} {e2 : Bool} {y2 x2 : Nat} (hs : sat W (cel a 40 [.int .i64 id, .int .i64 y, .int .i64 x] :: H) w) (hg : GS W H g) (hF : Fit g.gd n m) (hy : y < n) (hx : x < m) (hid : g.gd.id y = id) (ho : aft y x (goTo g.gd y x 3) = (y2, x2, e2)) :
    Calls Try.prog 42 #[.pointer (some ⟨a, 0, none⟩), .agg (gV g).toArray, .int .u8 3] w fun e' w' => e' = .returned (.bool (!e2)) ∧ sat W (cel a 40 [.int .i64 (g.gd.id y2), .int .i64 y2, .int .i64 x2] :: H) w' := by
  have HID := Lib.hid hid
  clear hid
  by_cases h0 : y = 0
  · skip
    have he : (y, x, true) = (y2, x2, e2) := by rw [← ho]; simp [goTo, aft, h0]
    cases he
    clear ho
    have hn := (hg.n_eq hF).1
    have h1 := hF.n1
    have h2 := hF.n12
    have h3 := hF.m1
    have h4 := hF.m600
    obtain ⟨b, off, b0, o0, c0, _, eb, hc0, _⟩ := hg.at_ hF hs.drop (y := 0) (by omega)
    have HC0 := Lib.hid hc0
    have HG := Lib.hid hg
    have HF := Lib.hid hF
    clear hc0 hg hF
    obtain ⟨aR, n', cR, aI, nI, cI, R, I, cy, cx, v1, v2, v3, v4, v5, v6, v7, v8⟩ := g
    obtain rfl : n = n' := hn.symm
    obtain rfl : aR = _ := eb
    have hy9 : (y : Int) < (n : Int) := by omega
    have hx9 : (x : Int) < (m : Int) := by omega
    have h19 : (0 : Int) < (n : Int) := by omega
    clear hy hx
    have hx0 : ((y : Int) == 0) = true := by simp [h0]
    have hx1 : decide (y = 0) = true := decide_eq_true h0
    clear h0
    go_enter Try.func42, Try.ntmps42
    go_upto_region 1 with fail
    have hs1 := hs.made (T := 34) (l := gV ⟨some ⟨b, off, none⟩, n, cR, aI, nI, cI, R, I, cy, cx, v1, v2, v3, v4, v5, v6, v7, v8⟩)
    clear hs
    have hs := hs1
    clear hs1
    generalize World.alloc w _ = w1 at hs ⊢
    generalize w.heap.size = zg at hs ⊢
    go_wp2_with (first | ((with_reducible refine isl ?_); first | ((with_reducible apply ldx); exact rfl; exact rfl; exact rfl; (first | exact hs.b0 | exact hs.b1); exact rfl; kernel_rfl) | ((with_reducible apply stx); exact rfl; exact rfl; exact rfl; (first | exact hs.b0 | exact hs.b1); exact rfl; exact rfl; exact rfl; kernel_rfl; exact rfl; clear hs; intro w hs) | ((with_reducible apply stcx); exact rfl; exact rfl; exact rfl; (first | exact hs.b0 | exact hs.b1); exact rfl; exact rfl; kernel_rfl; exact rfl; clear hs; intro w hs) | ((with_reducible refine wrap hs ?_); clear hs; intro w hs) | ((with_reducible refine wrapn hs ?_); clear hs; intro w hs) | ((with_reducible refine wrapd hs ?_); clear hs; intro w hs)))
    go_ret
    rw [HID.out]
    exact ⟨rfl, by refine sb_from ?_ hs; repeat constructor⟩
  · skip
    obtain ⟨⟨p1, p2⟩, hp⟩ : ∃ p, heldP g.gd ((y : Int) - 1) (x : Int) = p := ⟨_, rfl⟩
    have he : (p1, p2, false) = (y2, x2, e2) := by rw [← ho]; simp [goTo, aft, hp, h0]
    cases he
    have HP := Lib.hid hp
    clear hp ho
    have hn := (hg.n_eq hF).1
    have h1 := hF.n1
    have h2 := hF.n12
    have h3 := hF.m1
    have h4 := hF.m600
    obtain ⟨b, off, b0, o0, c0, _, eb, hc0, _⟩ := hg.at_ hF hs.drop (y := 0) (by omega)
    have HC0 := Lib.hid hc0
    have HG := Lib.hid hg
    have HF := Lib.hid hF
    clear hc0 hg hF
    obtain ⟨aR, n', cR, aI, nI, cI, R, I, cy, cx, v1, v2, v3, v4, v5, v6, v7, v8⟩ := g
    obtain rfl : n = n' := hn.symm
    obtain rfl : aR = _ := eb
    have hy9 : (y : Int) < (n : Int) := by omega
    have hx9 : (x : Int) < (m : Int) := by omega
    have h19 : (0 : Int) < (n : Int) := by omega
    clear hy hx
    have hx0 : ((y : Int) == 0) = false := beq_no (by omega)
    have hx1 : decide (y = 0) = false := decide_eq_false h0
    clear h0
    go_enter Try.func42, Try.ntmps42
    go_upto_region 1 with fail
    have hs1 := hs.made (T := 34) (l := gV ⟨some ⟨b, off, none⟩, n, cR, aI, nI, cI, R, I, cy, cx, v1, v2, v3, v4, v5, v6, v7, v8⟩)
    clear hs
    have hs := hs1
    clear hs1
    generalize World.alloc w _ = w1 at hs ⊢
    generalize w.heap.size = zg at hs ⊢
    go_upto_region 15 with (first | ((with_reducible refine isl ?_); first | ((with_reducible apply ldx); exact rfl; exact rfl; exact rfl; (first | exact hs.b0 | exact hs.b1); exact rfl; kernel_rfl) | ((with_reducible apply stx); exact rfl; exact rfl; exact rfl; (first | exact hs.b0 | exact hs.b1); exact rfl; exact rfl; exact rfl; kernel_rfl; exact rfl; clear hs; intro w hs) | ((with_reducible apply stcx); exact rfl; exact rfl; exact rfl; (first | exact hs.b0 | exact hs.b1); exact rfl; exact rfl; kernel_rfl; exact rfl; clear hs; intro w hs) | ((with_reducible refine wrap hs ?_); clear hs; intro w hs) | ((with_reducible refine wrapn hs ?_); clear hs; intro w hs) | ((with_reducible refine wrapd hs ?_); clear hs; intro w hs)))
    ((try simp only [Act.put, List.setIfInBounds_toArray, List.set_cons_succ, List.set_cons_zero]); refine region_tail 11 hs (by kernel_rfl) (by kernel_rfl) ?_; simp only [List.take_succ_cons, List.take_zero, List.drop_succ_cons, List.drop_zero]; clear hs; intro w hs; (repeat ((first | (first | (apply ldst 12 hs.b0; exact rfl; exact rfl; exact rfl; exact row34; exact rfl; exact rfl) | (apply ldst 12 hs.b1; exact rfl; exact rfl; exact rfl; exact row34; exact rfl; exact rfl) | (apply ldst 12 hs.b2; exact rfl; exact rfl; exact rfl; exact row34; exact rfl; exact rfl)) | ((with_reducible apply ldt hs.b0); exact rfl; exact rfl; exact rfl; exact rfl; kernel_rfl) | ((with_reducible apply ldt hs.b1); exact rfl; exact rfl; exact rfl; exact rfl; kernel_rfl) | go_big_quiet_step (fail)); (try simp only [Act.put, List.setIfInBounds_toArray, List.set_cons_succ, List.set_cons_zero]))); refine wpQuiet_nil ?_)
    go_wp2_with (first | (go_at_call 25; first | (refine (put25 (g := ⟨some ⟨b, off, none⟩, n, cR, aI, nI, cI, R, I, cy, cx, v1, v2, v3, v4, v5, v6, v7, v8⟩) (py := (y : Int) - 1) (px := x) hs.b0 (by (repeat first | exact HG.out | apply GS.more)) HF.out HP.out).mono ?_; clear hs; rintro e w ⟨rfl, hs⟩) | (refine (put25 (g := ⟨some ⟨b, off, none⟩, n, cR, aI, nI, cI, R, I, cy, cx, v1, v2, v3, v4, v5, v6, v7, v8⟩) (py := (y : Int) - 1) (px := x) hs.b1 (by (repeat first | exact HG.out | apply GS.more)) HF.out HP.out).mono ?_; clear hs; rintro e w ⟨rfl, hs⟩) | (refine (put25 (g := ⟨some ⟨b, off, none⟩, n, cR, aI, nI, cI, R, I, cy, cx, v1, v2, v3, v4, v5, v6, v7, v8⟩) (py := (y : Int) - 1) (px := x) hs.b2 (by (repeat first | exact HG.out | apply GS.more)) HF.out HP.out).mono ?_; clear hs; rintro e w ⟨rfl, hs⟩)) | ((with_reducible refine isl ?_); first | ((with_reducible apply ldx); exact rfl; exact rfl; exact rfl; (first | exact hs.b0 | exact hs.b1); exact rfl; kernel_rfl) | ((with_reducible apply stx); exact rfl; exact rfl; exact rfl; (first | exact hs.b0 | exact hs.b1); exact rfl; exact rfl; exact rfl; kernel_rfl; exact rfl; clear hs; intro w hs) | ((with_reducible apply stcx); exact rfl; exact rfl; exact rfl; (first | exact hs.b0 | exact hs.b1); exact rfl; exact rfl; kernel_rfl; exact rfl; clear hs; intro w hs) | ((with_reducible refine wrap hs ?_); clear hs; intro w hs) | ((with_reducible refine wrapn hs ?_); clear hs; intro w hs) | ((with_reducible refine wrapd hs ?_); clear hs; intro w hs)))
    go_ret
    exact ⟨rfl, by refine sb_from ?_ hs; repeat constructor⟩

set_option maxHeartbeats 4000000 in
set_option maxRecDepth 20000 in
theorem step42_4 {a y x : Nat} {id : Int} {e2 : Bool} {y2 x2 : Nat} (hs : sat W (cel a 40 [.int .i64 id, .int .i64 y, .int .i64 x] :: H) w) (hg : GS W H g) (hF : Fit g.gd n m) (hy : y < n) (hx : x < m) (hid : g.gd.id y = id) (ho : aft y x (goTo g.gd y x 4) = (y2, x2, e2)) :
    Calls Try.prog 42 #[.pointer (some ⟨a, 0, none⟩), .agg (gV g).toArray, .int .u8 4] w fun e' w' => e' = .returned (.bool (!e2)) ∧ sat W (cel a 40 [.int .i64 (g.gd.id y2), .int .i64 y2, .int .i64 x2] :: H) w' := by
  have HID := Lib.hid hid
  clear hid
  by_cases h0 : ¬ y + 1 < n
  · skip
    have he : (y, x, true) = (y2, x2, e2) := by rw [← ho]; simp [goTo, aft, hF.gn, h0]
    cases he
    clear ho
    have hn := (hg.n_eq hF).1
    have h1 := hF.n1
    have h2 := hF.n12
    have h3 := hF.m1
    have h4 := hF.m600
    obtain ⟨b, off, b0, o0, c0, _, eb, hc0, _⟩ := hg.at_ hF hs.drop (y := 0) (by omega)
    have HC0 := Lib.hid hc0
    have HG := Lib.hid hg
    have HF := Lib.hid hF
    clear hc0 hg hF
    obtain ⟨aR, n', cR, aI, nI, cI, R, I, cy, cx, v1, v2, v3, v4, v5, v6, v7, v8⟩ := g
    obtain rfl : n = n' := hn.symm
    obtain rfl : aR = _ := eb
    have hy9 : (y : Int) < (n : Int) := by omega
    have hx9 : (x : Int) < (m : Int) := by omega
    have h19 : (0 : Int) < (n : Int) := by omega
    clear hy hx
    have hx0 : ((y : Int) == (n : Int) - 1) = true := by simp; omega
    clear h0
    go_enter Try.func42, Try.ntmps42
    go_upto_region 1 with fail
    have hs1 := hs.made (T := 34) (l := gV ⟨some ⟨b, off, none⟩, n, cR, aI, nI, cI, R, I, cy, cx, v1, v2, v3, v4, v5, v6, v7, v8⟩)
    clear hs
    have hs := hs1
    clear hs1
    generalize World.alloc w _ = w1 at hs ⊢
    generalize w.heap.size = zg at hs ⊢
    go_wp2_with (first | ((with_reducible refine isl ?_); first | ((with_reducible apply ldx); exact rfl; exact rfl; exact rfl; (first | exact hs.b0 | exact hs.b1); exact rfl; kernel_rfl) | ((with_reducible apply stx); exact rfl; exact rfl; exact rfl; (first | exact hs.b0 | exact hs.b1); exact rfl; exact rfl; exact rfl; kernel_rfl; exact rfl; clear hs; intro w hs) | ((with_reducible apply stcx); exact rfl; exact rfl; exact rfl; (first | exact hs.b0 | exact hs.b1); exact rfl; exact rfl; kernel_rfl; exact rfl; clear hs; intro w hs) | ((with_reducible refine wrap hs ?_); clear hs; intro w hs) | ((with_reducible refine wrapn hs ?_); clear hs; intro w hs) | ((with_reducible refine wrapd hs ?_); clear hs; intro w hs)))
    go_ret
    rw [HID.out]
    exact ⟨rfl, by refine sb_from ?_ hs; repeat constructor⟩
  · skip
    obtain ⟨⟨p1, p2⟩, hp⟩ : ∃ p, heldP g.gd ((y : Int) + 1) (x : Int) = p := ⟨_, rfl⟩
    have he : (p1, p2, false) = (y2, x2, e2) := by rw [← ho]; simp [goTo, aft, hp, hF.gn, Decidable.not_not.1 h0]
    cases he
    have HP := Lib.hid hp
    clear hp ho
    have hn := (hg.n_eq hF).1
    have h1 := hF.n1
    have h2 := hF.n12
    have h3 := hF.m1
    have h4 := hF.m600
    obtain ⟨b, off, b0, o0, c0, _, eb, hc0, _⟩ := hg.at_ hF hs.drop (y := 0) (by omega)
    have HC0 := Lib.hid hc0
    have HG := Lib.hid hg
    have HF := Lib.hid hF
    clear hc0 hg hF
    obtain ⟨aR, n', cR, aI, nI, cI, R, I, cy, cx, v1, v2, v3, v4, v5, v6, v7, v8⟩ := g
    obtain rfl : n = n' := hn.symm
    obtain rfl : aR = _ := eb
    have hy9 : (y : Int) < (n : Int) := by omega
    have hx9 : (x : Int) < (m : Int) := by omega
    have h19 : (0 : Int) < (n : Int) := by omega
    clear hy hx
    have hx0 : ((y : Int) == (n : Int) - 1) = false := beq_no (by omega)
    clear h0
    go_enter Try.func42, Try.ntmps42
    go_upto_region 1 with fail
    have hs1 := hs.made (T := 34) (l := gV ⟨some ⟨b, off, none⟩, n, cR, aI, nI, cI, R, I, cy, cx, v1, v2, v3, v4, v5, v6, v7, v8⟩)
    clear hs
    have hs := hs1
    clear hs1
    generalize World.alloc w _ = w1 at hs ⊢
    generalize w.heap.size = zg at hs ⊢
    go_upto_region 19 with (first | ((with_reducible refine isl ?_); first | ((with_reducible apply ldx); exact rfl; exact rfl; exact rfl; (first | exact hs.b0 | exact hs.b1); exact rfl; kernel_rfl) | ((with_reducible apply stx); exact rfl; exact rfl; exact rfl; (first | exact hs.b0 | exact hs.b1); exact rfl; exact rfl; exact rfl; kernel_rfl; exact rfl; clear hs; intro w hs) | ((with_reducible apply stcx); exact rfl; exact rfl; exact rfl; (first | exact hs.b0 | exact hs.b1); exact rfl; exact rfl; kernel_rfl; exact rfl; clear hs; intro w hs) | ((with_reducible refine wrap hs ?_); clear hs; intro w hs) | ((with_reducible refine wrapn hs ?_); clear hs; intro w hs) | ((with_reducible refine wrapd hs ?_); clear hs; intro w hs)))
    ((try simp only [Act.put, List.setIfInBounds_toArray, List.set_cons_succ, List.set_cons_zero]); refine region_tail 11 hs (by kernel_rfl) (by kernel_rfl) ?_; simp only [List.take_succ_cons, List.take_zero, List.drop_succ_cons, List.drop_zero]; clear hs; intro w hs; (repeat ((first | (first | (apply ldst 12 hs.b0; exact rfl; exact rfl; exact rfl; exact row34; exact rfl; exact rfl) | (apply ldst 12 hs.b1; exact rfl; exact rfl; exact rfl; exact row34; exact rfl; exact rfl) | (apply ldst 12 hs.b2; exact rfl; exact rfl; exact rfl; exact row34; exact rfl; exact rfl)) | ((with_reducible apply ldt hs.b0); exact rfl; exact rfl; exact rfl; exact rfl; kernel_rfl) | ((with_reducible apply ldt hs.b1); exact rfl; exact rfl; exact rfl; exact rfl; kernel_rfl) | go_big_quiet_step (fail)); (try simp only [Act.put, List.setIfInBounds_toArray, List.set_cons_succ, List.set_cons_zero]))); refine wpQuiet_nil ?_)
    go_wp2_with (first | (go_at_call 25; first | (refine (put25 (g := ⟨some ⟨b, off, none⟩, n, cR, aI, nI, cI, R, I, cy, cx, v1, v2, v3, v4, v5, v6, v7, v8⟩) (py := (y : Int) + 1) (px := x) hs.b0 (by (repeat first | exact HG.out | apply GS.more)) HF.out HP.out).mono ?_; clear hs; rintro e w ⟨rfl, hs⟩) | (refine (put25 (g := ⟨some ⟨b, off, none⟩, n, cR, aI, nI, cI, R, I, cy, cx, v1, v2, v3, v4, v5, v6, v7, v8⟩) (py := (y : Int) + 1) (px := x) hs.b1 (by (repeat first | exact HG.out | apply GS.more)) HF.out HP.out).mono ?_; clear hs; rintro e w ⟨rfl, hs⟩) | (refine (put25 (g := ⟨some ⟨b, off, none⟩, n, cR, aI, nI, cI, R, I, cy, cx, v1, v2, v3, v4, v5, v6, v7, v8⟩) (py := (y : Int) + 1) (px := x) hs.b2 (by (repeat first | exact HG.out | apply GS.more)) HF.out HP.out).mono ?_; clear hs; rintro e w ⟨rfl, hs⟩)) | ((with_reducible refine isl ?_); first | ((with_reducible apply ldx); exact rfl; exact rfl; exact rfl; (first | exact hs.b0 | exact hs.b1); exact rfl; kernel_rfl) | ((with_reducible apply stx); exact rfl; exact rfl; exact rfl; (first | exact hs.b0 | exact hs.b1); exact rfl; exact rfl; exact rfl; kernel_rfl; exact rfl; clear hs; intro w hs) | ((with_reducible apply stcx); exact rfl; exact rfl; exact rfl; (first | exact hs.b0 | exact hs.b1); exact rfl; exact rfl; kernel_rfl; exact rfl; clear hs; intro w hs) | ((with_reducible refine wrap hs ?_); clear hs; intro w hs) | ((with_reducible refine wrapn hs ?_); clear hs; intro w hs) | ((with_reducible refine wrapd hs ?_); clear hs; intro w hs)))
    go_ret
    exact ⟨rfl, by refine sb_from ?_ hs; repeat constructor⟩

set_option maxHeartbeats 4000000 in
set_option maxRecDepth 20000 in
theorem step42_7 {a y x : Nat} {id : Int} {e2 : Bool} {y2 x2 : Nat} (hs : sat W (cel a 40 [.int .i64 id, .int .i64 y, .int .i64 x] :: H) w) (hg : GS W H g) (hF : Fit g.gd n m) (hy : y < n) (hx : x < m) (hid : g.gd.id y = id) (ho : aft y x (goTo g.gd y x 7) = (y2, x2, e2)) :
    Calls Try.prog 42 #[.pointer (some ⟨a, 0, none⟩), .agg (gV g).toArray, .int .u8 7] w fun e' w' => e' = .returned (.bool (!e2)) ∧ sat W (cel a 40 [.int .i64 (g.gd.id y2), .int .i64 y2, .int .i64 x2] :: H) w' := by
  have HID := Lib.hid hid
  clear hid
  obtain ⟨⟨p1, p2⟩, hp⟩ : ∃ p, heldP g.gd (y : Int) 0 = p := ⟨_, rfl⟩
  have he : (p1, p2, false) = (y2, x2, e2) := by rw [← ho]; simp [goTo, aft, hp, hF.gn]
  cases he
  have HP := Lib.hid hp
  clear hp ho
  have hn := (hg.n_eq hF).1
  have h1 := hF.n1
  have h2 := hF.n12
  have h3 := hF.m1
  have h4 := hF.m600
  obtain ⟨b, off, b0, o0, c0, _, eb, hc0, _⟩ := hg.at_ hF hs.drop (y := 0) (by omega)
  have HC0 := Lib.hid hc0
  have HG := Lib.hid hg
  have HF := Lib.hid hF
  clear hc0 hg hF
  obtain ⟨aR, n', cR, aI, nI, cI, R, I, cy, cx, v1, v2, v3, v4, v5, v6, v7, v8⟩ := g
  obtain rfl : n = n' := hn.symm
  obtain rfl : aR = _ := eb
  have hy9 : (y : Int) < (n : Int) := by omega
  have hx9 : (x : Int) < (m : Int) := by omega
  have h19 : (0 : Int) < (n : Int) := by omega
  clear hy hx
  go_enter Try.func42, Try.ntmps42
  go_upto_region 1 with fail
  have hs1 := hs.made (T := 34) (l := gV ⟨some ⟨b, off, none⟩, n, cR, aI, nI, cI, R, I, cy, cx, v1, v2, v3, v4, v5, v6, v7, v8⟩)
  clear hs
  have hs := hs1
  clear hs1
  generalize World.alloc w _ = w1 at hs ⊢
  generalize w.heap.size = zg at hs ⊢
  go_upto_region 25 with (first | ((with_reducible refine isl ?_); first | ((with_reducible apply ldx); exact rfl; exact rfl; exact rfl; (first | exact hs.b0 | exact hs.b1); exact rfl; kernel_rfl) | ((with_reducible apply stx); exact rfl; exact rfl; exact rfl; (first | exact hs.b0 | exact hs.b1); exact rfl; exact rfl; exact rfl; kernel_rfl; exact rfl; clear hs; intro w hs) | ((with_reducible apply stcx); exact rfl; exact rfl; exact rfl; (first | exact hs.b0 | exact hs.b1); exact rfl; exact rfl; kernel_rfl; exact rfl; clear hs; intro w hs) | ((with_reducible refine wrap hs ?_); clear hs; intro w hs) | ((with_reducible refine wrapn hs ?_); clear hs; intro w hs) | ((with_reducible refine wrapd hs ?_); clear hs; intro w hs)))
  ((try simp only [Act.put, List.setIfInBounds_toArray, List.set_cons_succ, List.set_cons_zero]); refine region_tail 6 hs (by kernel_rfl) (by kernel_rfl) ?_; simp only [List.take_succ_cons, List.take_zero, List.drop_succ_cons, List.drop_zero]; clear hs; intro w hs; (repeat ((first | (first | (apply ldst 12 hs.b0; exact rfl; exact rfl; exact rfl; exact row34; exact rfl; exact rfl) | (apply ldst 12 hs.b1; exact rfl; exact rfl; exact rfl; exact row34; exact rfl; exact rfl) | (apply ldst 12 hs.b2; exact rfl; exact rfl; exact rfl; exact row34; exact rfl; exact rfl)) | ((with_reducible apply ldt hs.b0); exact rfl; exact rfl; exact rfl; exact rfl; kernel_rfl) | ((with_reducible apply ldt hs.b1); exact rfl; exact rfl; exact rfl; exact rfl; kernel_rfl) | go_big_quiet_step (fail)); (try simp only [Act.put, List.setIfInBounds_toArray, List.set_cons_succ, List.set_cons_zero]))); refine wpQuiet_nil ?_)
  go_wp2_with (first | (go_at_call 25; first | (refine (put25 (g := ⟨some ⟨b, off, none⟩, n, cR, aI, nI, cI, R, I, cy, cx, v1, v2, v3, v4, v5, v6, v7, v8⟩) (py := y) (px := 0) hs.b0 (by (repeat first | exact HG.out | apply GS.more)) HF.out HP.out).mono ?_; clear hs; rintro e w ⟨rfl, hs⟩) | (refine (put25 (g := ⟨some ⟨b, off, none⟩, n, cR, aI, nI, cI, R, I, cy, cx, v1, v2, v3, v4, v5, v6, v7, v8⟩) (py := y) (px := 0) hs.b1 (by (repeat first | exact HG.out | apply GS.more)) HF.out HP.out).mono ?_; clear hs; rintro e w ⟨rfl, hs⟩) | (refine (put25 (g := ⟨some ⟨b, off, none⟩, n, cR, aI, nI, cI, R, I, cy, cx, v1, v2, v3, v4, v5, v6, v7, v8⟩) (py := y) (px := 0) hs.b2 (by (repeat first | exact HG.out | apply GS.more)) HF.out HP.out).mono ?_; clear hs; rintro e w ⟨rfl, hs⟩)) | ((with_reducible refine isl ?_); first | ((with_reducible apply ldx); exact rfl; exact rfl; exact rfl; (first | exact hs.b0 | exact hs.b1); exact rfl; kernel_rfl) | ((with_reducible apply stx); exact rfl; exact rfl; exact rfl; (first | exact hs.b0 | exact hs.b1); exact rfl; exact rfl; exact rfl; kernel_rfl; exact rfl; clear hs; intro w hs) | ((with_reducible apply stcx); exact rfl; exact rfl; exact rfl; (first | exact hs.b0 | exact hs.b1); exact rfl; exact rfl; kernel_rfl; exact rfl; clear hs; intro w hs) | ((with_reducible refine wrap hs ?_); clear hs; intro w hs) | ((with_reducible refine wrapn hs ?_); clear hs; intro w hs) | ((with_reducible refine wrapd hs ?_); clear hs; intro w hs)))
  go_ret
  exact ⟨rfl, by refine sb_from ?_ hs; repeat constructor⟩

set_option maxHeartbeats 4000000 in
set_option maxRecDepth 20000 in
theorem step42_9 {a y x : Nat} {id : Int} {e2 : Bool} {y2 x2 : Nat} (hs : sat W (cel a 40 [.int .i64 id, .int .i64 y, .int .i64 x] :: H) w) (hg : GS W H g) (hF : Fit g.gd n m) (hy : y < n) (hx : x < m) (hid : g.gd.id y = id) (ho : aft y x (goTo g.gd y x 9) = (y2, x2, e2)) :
    Calls Try.prog 42 #[.pointer (some ⟨a, 0, none⟩), .agg (gV g).toArray, .int .u8 9] w fun e' w' => e' = .returned (.bool (!e2)) ∧ sat W (cel a 40 [.int .i64 (g.gd.id y2), .int .i64 y2, .int .i64 x2] :: H) w' := by
  have HID := Lib.hid hid
  clear hid
  obtain ⟨⟨p1, p2⟩, hp⟩ : ∃ p, heldP g.gd 0 (x : Int) = p := ⟨_, rfl⟩
  have he : (p1, p2, false) = (y2, x2, e2) := by rw [← ho]; simp [goTo, aft, hp, hF.gn]
  cases he
  have HP := Lib.hid hp
  clear hp ho
  have hn := (hg.n_eq hF).1
  have h1 := hF.n1
  have h2 := hF.n12
  have h3 := hF.m1
  have h4 := hF.m600
  obtain ⟨b, off, b0, o0, c0, _, eb, hc0, _⟩ := hg.at_ hF hs.drop (y := 0) (by omega)
  have HC0 := Lib.hid hc0
  have HG := Lib.hid hg
  have HF := Lib.hid hF
  clear hc0 hg hF
  obtain ⟨aR, n', cR, aI, nI, cI, R, I, cy, cx, v1, v2, v3, v4, v5, v6, v7, v8⟩ := g
  obtain rfl : n = n' := hn.symm
  obtain rfl : aR = _ := eb
  have hy9 : (y : Int) < (n : Int) := by omega
  have hx9 : (x : Int) < (m : Int) := by omega
  have h19 : (0 : Int) < (n : Int) := by omega
  clear hy hx
  go_enter Try.func42, Try.ntmps42
  go_upto_region 1 with fail
  have hs1 := hs.made (T := 34) (l := gV ⟨some ⟨b, off, none⟩, n, cR, aI, nI, cI, R, I, cy, cx, v1, v2, v3, v4, v5, v6, v7, v8⟩)
  clear hs
  have hs := hs1
  clear hs1
  generalize World.alloc w _ = w1 at hs ⊢
  generalize w.heap.size = zg at hs ⊢
  go_upto_region 35 with (first | ((with_reducible refine isl ?_); first | ((with_reducible apply ldx); exact rfl; exact rfl; exact rfl; (first | exact hs.b0 | exact hs.b1); exact rfl; kernel_rfl) | ((with_reducible apply stx); exact rfl; exact rfl; exact rfl; (first | exact hs.b0 | exact hs.b1); exact rfl; exact rfl; exact rfl; kernel_rfl; exact rfl; clear hs; intro w hs) | ((with_reducible apply stcx); exact rfl; exact rfl; exact rfl; (first | exact hs.b0 | exact hs.b1); exact rfl; exact rfl; kernel_rfl; exact rfl; clear hs; intro w hs) | ((with_reducible refine wrap hs ?_); clear hs; intro w hs) | ((with_reducible refine wrapn hs ?_); clear hs; intro w hs) | ((with_reducible refine wrapd hs ?_); clear hs; intro w hs)))
  ((try simp only [Act.put, List.setIfInBounds_toArray, List.set_cons_succ, List.set_cons_zero]); refine region_tail 6 hs (by kernel_rfl) (by kernel_rfl) ?_; simp only [List.take_succ_cons, List.take_zero, List.drop_succ_cons, List.drop_zero]; clear hs; intro w hs; (repeat ((first | (first | (apply ldst 12 hs.b0; exact rfl; exact rfl; exact rfl; exact row34; exact rfl; exact rfl) | (apply ldst 12 hs.b1; exact rfl; exact rfl; exact rfl; exact row34; exact rfl; exact rfl) | (apply ldst 12 hs.b2; exact rfl; exact rfl; exact rfl; exact row34; exact rfl; exact rfl)) | ((with_reducible apply ldt hs.b0); exact rfl; exact rfl; exact rfl; exact rfl; kernel_rfl) | ((with_reducible apply ldt hs.b1); exact rfl; exact rfl; exact rfl; exact rfl; kernel_rfl) | go_big_quiet_step (fail)); (try simp only [Act.put, List.setIfInBounds_toArray, List.set_cons_succ, List.set_cons_zero]))); refine wpQuiet_nil ?_)
  go_wp2_with (first | (go_at_call 25; first | (refine (put25 (g := ⟨some ⟨b, off, none⟩, n, cR, aI, nI, cI, R, I, cy, cx, v1, v2, v3, v4, v5, v6, v7, v8⟩) (py := 0) (px := x) hs.b0 (by (repeat first | exact HG.out | apply GS.more)) HF.out HP.out).mono ?_; clear hs; rintro e w ⟨rfl, hs⟩) | (refine (put25 (g := ⟨some ⟨b, off, none⟩, n, cR, aI, nI, cI, R, I, cy, cx, v1, v2, v3, v4, v5, v6, v7, v8⟩) (py := 0) (px := x) hs.b1 (by (repeat first | exact HG.out | apply GS.more)) HF.out HP.out).mono ?_; clear hs; rintro e w ⟨rfl, hs⟩) | (refine (put25 (g := ⟨some ⟨b, off, none⟩, n, cR, aI, nI, cI, R, I, cy, cx, v1, v2, v3, v4, v5, v6, v7, v8⟩) (py := 0) (px := x) hs.b2 (by (repeat first | exact HG.out | apply GS.more)) HF.out HP.out).mono ?_; clear hs; rintro e w ⟨rfl, hs⟩)) | ((with_reducible refine isl ?_); first | ((with_reducible apply ldx); exact rfl; exact rfl; exact rfl; (first | exact hs.b0 | exact hs.b1); exact rfl; kernel_rfl) | ((with_reducible apply stx); exact rfl; exact rfl; exact rfl; (first | exact hs.b0 | exact hs.b1); exact rfl; exact rfl; exact rfl; kernel_rfl; exact rfl; clear hs; intro w hs) | ((with_reducible apply stcx); exact rfl; exact rfl; exact rfl; (first | exact hs.b0 | exact hs.b1); exact rfl; exact rfl; kernel_rfl; exact rfl; clear hs; intro w hs) | ((with_reducible refine wrap hs ?_); clear hs; intro w hs) | ((with_reducible refine wrapn hs ?_); clear hs; intro w hs) | ((with_reducible refine wrapd hs ?_); clear hs; intro w hs)))
  go_ret
  exact ⟨rfl, by refine sb_from ?_ hs; repeat constructor⟩

set_option maxHeartbeats 4000000 in
set_option maxRecDepth 20000 in
theorem step42_10 {a y x : Nat} {id : Int} {e2 : Bool} {y2 x2 : Nat} (hs : sat W (cel a 40 [.int .i64 id, .int .i64 y, .int .i64 x] :: H) w) (hg : GS W H g) (hF : Fit g.gd n m) (hy : y < n) (hx : x < m) (hid : g.gd.id y = id) (ho : aft y x (goTo g.gd y x 10) = (y2, x2, e2)) :
    Calls Try.prog 42 #[.pointer (some ⟨a, 0, none⟩), .agg (gV g).toArray, .int .u8 10] w fun e' w' => e' = .returned (.bool (!e2)) ∧ sat W (cel a 40 [.int .i64 (g.gd.id y2), .int .i64 y2, .int .i64 x2] :: H) w' := by
  have HID := Lib.hid hid
  clear hid
  obtain ⟨⟨p1, p2⟩, hp⟩ : ∃ p, heldP g.gd ((n : Int) - 1) (x : Int) = p := ⟨_, rfl⟩
  have he : (p1, p2, false) = (y2, x2, e2) := by rw [← ho]; simp [goTo, aft, hp, hF.gn]
  cases he
  have HP := Lib.hid hp
  clear hp ho
  have hn := (hg.n_eq hF).1
  have h1 := hF.n1
  have h2 := hF.n12
  have h3 := hF.m1
  have h4 := hF.m600
  obtain ⟨b, off, b0, o0, c0, _, eb, hc0, _⟩ := hg.at_ hF hs.drop (y := 0) (by omega)
  have HC0 := Lib.hid hc0
  have HG := Lib.hid hg
  have HF := Lib.hid hF
  clear hc0 hg hF
  obtain ⟨aR, n', cR, aI, nI, cI, R, I, cy, cx, v1, v2, v3, v4, v5, v6, v7, v8⟩ := g
  obtain rfl : n = n' := hn.symm
  obtain rfl : aR = _ := eb
  have hy9 : (y : Int) < (n : Int) := by omega
  have hx9 : (x : Int) < (m : Int) := by omega
  have h19 : (0 : Int) < (n : Int) := by omega
  clear hy hx
  go_enter Try.func42, Try.ntmps42
  go_upto_region 1 with fail
  have hs1 := hs.made (T := 34) (l := gV ⟨some ⟨b, off, none⟩, n, cR, aI, nI, cI, R, I, cy, cx, v1, v2, v3, v4, v5, v6, v7, v8⟩)
  clear hs
  have hs := hs1
  clear hs1
  generalize World.alloc w _ = w1 at hs ⊢
  generalize w.heap.size = zg at hs ⊢
  go_upto_region 37 with (first | ((with_reducible refine isl ?_); first | ((with_reducible apply ldx); exact rfl; exact rfl; exact rfl; (first | exact hs.b0 | exact hs.b1); exact rfl; kernel_rfl) | ((with_reducible apply stx); exact rfl; exact rfl; exact rfl; (first | exact hs.b0 | exact hs.b1); exact rfl; exact rfl; exact rfl; kernel_rfl; exact rfl; clear hs; intro w hs) | ((with_reducible apply stcx); exact rfl; exact rfl; exact rfl; (first | exact hs.b0 | exact hs.b1); exact rfl; exact rfl; kernel_rfl; exact rfl; clear hs; intro w hs) | ((with_reducible refine wrap hs ?_); clear hs; intro w hs) | ((with_reducible refine wrapn hs ?_); clear hs; intro w hs) | ((with_reducible refine wrapd hs ?_); clear hs; intro w hs)))
  ((try simp only [Act.put, List.setIfInBounds_toArray, List.set_cons_succ, List.set_cons_zero]); refine region_tail 7 hs (by kernel_rfl) (by kernel_rfl) ?_; simp only [List.take_succ_cons, List.take_zero, List.drop_succ_cons, List.drop_zero]; clear hs; intro w hs; (repeat ((first | (first | (apply ldst 12 hs.b0; exact rfl; exact rfl; exact rfl; exact row34; exact rfl; exact rfl) | (apply ldst 12 hs.b1; exact rfl; exact rfl; exact rfl; exact row34; exact rfl; exact rfl) | (apply ldst 12 hs.b2; exact rfl; exact rfl; exact rfl; exact row34; exact rfl; exact rfl)) | ((with_reducible apply ldt hs.b0); exact rfl; exact rfl; exact rfl; exact rfl; kernel_rfl) | ((with_reducible apply ldt hs.b1); exact rfl; exact rfl; exact rfl; exact rfl; kernel_rfl) | go_big_quiet_step (fail)); (try simp only [Act.put, List.setIfInBounds_toArray, List.set_cons_succ, List.set_cons_zero]))); refine wpQuiet_nil ?_)
  go_wp2_with (first | (go_at_call 25; first | (refine (put25 (g := ⟨some ⟨b, off, none⟩, n, cR, aI, nI, cI, R, I, cy, cx, v1, v2, v3, v4, v5, v6, v7, v8⟩) (py := (n : Int) - 1) (px := x) hs.b0 (by (repeat first | exact HG.out | apply GS.more)) HF.out HP.out).mono ?_; clear hs; rintro e w ⟨rfl, hs⟩) | (refine (put25 (g := ⟨some ⟨b, off, none⟩, n, cR, aI, nI, cI, R, I, cy, cx, v1, v2, v3, v4, v5, v6, v7, v8⟩) (py := (n : Int) - 1) (px := x) hs.b1 (by (repeat first | exact HG.out | apply GS.more)) HF.out HP.out).mono ?_; clear hs; rintro e w ⟨rfl, hs⟩) | (refine (put25 (g := ⟨some ⟨b, off, none⟩, n, cR, aI, nI, cI, R, I, cy, cx, v1, v2, v3, v4, v5, v6, v7, v8⟩) (py := (n : Int) - 1) (px := x) hs.b2 (by (repeat first | exact HG.out | apply GS.more)) HF.out HP.out).mono ?_; clear hs; rintro e w ⟨rfl, hs⟩)) | ((with_reducible refine isl ?_); first | ((with_reducible apply ldx); exact rfl; exact rfl; exact rfl; (first | exact hs.b0 | exact hs.b1); exact rfl; kernel_rfl) | ((with_reducible apply stx); exact rfl; exact rfl; exact rfl; (first | exact hs.b0 | exact hs.b1); exact rfl; exact rfl; exact rfl; kernel_rfl; exact rfl; clear hs; intro w hs) | ((with_reducible apply stcx); exact rfl; exact rfl; exact rfl; (first | exact hs.b0 | exact hs.b1); exact rfl; exact rfl; kernel_rfl; exact rfl; clear hs; intro w hs) | ((with_reducible refine wrap hs ?_); clear hs; intro w hs) | ((with_reducible refine wrapn hs ?_); clear hs; intro w hs) | ((with_reducible refine wrapd hs ?_); clear hs; intro w hs)))
  go_ret
  exact ⟨rfl, by refine sb_from ?_ hs; repeat constructor⟩

set_option maxHeartbeats 4000000 in
set_option maxRecDepth 20000 in
theorem step42_11 {a y x : Nat} {id : Int} {e2 : Bool} {y2 x2 : Nat} (hs : sat W (cel a 40 [.int .i64 id, .int .i64 y, .int .i64 x] :: H) w) (hg : GS W H g) (hF : Fit g.gd n m) (hy : y < n) (hx : x < m) (hid : g.gd.id y = id) (ho : aft y x (goTo g.gd y x 11) = (y2, x2, e2)) :
    Calls Try.prog 42 #[.pointer (some ⟨a, 0, none⟩), .agg (gV g).toArray, .int .u8 11] w fun e' w' => e' = .returned (.bool (!e2)) ∧ sat W (cel a 40 [.int .i64 (g.gd.id y2), .int .i64 y2, .int .i64 x2] :: H) w' := by
  have HID := Lib.hid hid
  clear hid
  obtain ⟨⟨p1, p2⟩, hp⟩ : ∃ p, heldP g.gd g.gd.cy g.gd.cx = p := ⟨_, rfl⟩
  have he : (p1, p2, false) = (y2, x2, e2) := by rw [← ho]; simp [goTo, aft, hp, hF.gn]
  cases he
  have HP := Lib.hid hp
  clear hp ho
  have hn := (hg.n_eq hF).1
  have h1 := hF.n1
  have h2 := hF.n12
  have h3 := hF.m1
  have h4 := hF.m600
  obtain ⟨b, off, b0, o0, c0, _, eb, hc0, _⟩ := hg.at_ hF hs.drop (y := 0) (by omega)
  have HC0 := Lib.hid hc0
  have HG := Lib.hid hg
  have HF := Lib.hid hF
  clear hc0 hg hF
  obtain ⟨aR, n', cR, aI, nI, cI, R, I, cy, cx, v1, v2, v3, v4, v5, v6, v7, v8⟩ := g
  obtain rfl : n = n' := hn.symm
  obtain rfl : aR = _ := eb
  have hy9 : (y : Int) < (n : Int) := by omega
  have hx9 : (x : Int) < (m : Int) := by omega
  have h19 : (0 : Int) < (n : Int) := by omega
  clear hy hx
  go_enter Try.func42, Try.ntmps42
  go_upto_region 1 with fail
  have hs1 := hs.made (T := 34) (l := gV ⟨some ⟨b, off, none⟩, n, cR, aI, nI, cI, R, I, cy, cx, v1, v2, v3, v4, v5, v6, v7, v8⟩)
  clear hs
  have hs := hs1
  clear hs1
  generalize World.alloc w _ = w1 at hs ⊢
  generalize w.heap.size = zg at hs ⊢
  go_wp2_with (first | (go_at_call 25; first | (refine (put25 (g := ⟨some ⟨b, off, none⟩, n, cR, aI, nI, cI, R, I, cy, cx, v1, v2, v3, v4, v5, v6, v7, v8⟩) (py := cy) (px := cx) hs.b0 (by (repeat first | exact HG.out | apply GS.more)) HF.out HP.out).mono ?_; clear hs; rintro e w ⟨rfl, hs⟩) | (refine (put25 (g := ⟨some ⟨b, off, none⟩, n, cR, aI, nI, cI, R, I, cy, cx, v1, v2, v3, v4, v5, v6, v7, v8⟩) (py := cy) (px := cx) hs.b1 (by (repeat first | exact HG.out | apply GS.more)) HF.out HP.out).mono ?_; clear hs; rintro e w ⟨rfl, hs⟩) | (refine (put25 (g := ⟨some ⟨b, off, none⟩, n, cR, aI, nI, cI, R, I, cy, cx, v1, v2, v3, v4, v5, v6, v7, v8⟩) (py := cy) (px := cx) hs.b2 (by (repeat first | exact HG.out | apply GS.more)) HF.out HP.out).mono ?_; clear hs; rintro e w ⟨rfl, hs⟩)) | ((with_reducible refine isl ?_); first | ((with_reducible apply ldswx); exact rfl; exact rfl; exact rfl; (first | exact hs.b0 | exact hs.b1); exact row34) | ((with_reducible apply ldx); exact rfl; exact rfl; exact rfl; (first | exact hs.b0 | exact hs.b1); exact rfl; kernel_rfl) | ((with_reducible apply stx); exact rfl; exact rfl; exact rfl; (first | exact hs.b0 | exact hs.b1); exact rfl; exact rfl; exact rfl; kernel_rfl; exact rfl; clear hs; intro w hs) | ((with_reducible apply stcx); exact rfl; exact rfl; exact rfl; (first | exact hs.b0 | exact hs.b1); exact rfl; exact rfl; kernel_rfl; exact rfl; clear hs; intro w hs) | ((with_reducible refine wrap hs ?_); clear hs; intro w hs) | ((with_reducible refine wrapn hs ?_); clear hs; intro w hs) | ((with_reducible refine wrapd hs ?_); clear hs; intro w hs)))
  go_ret
  exact ⟨rfl, by refine sb_from ?_ hs; repeat constructor⟩

set_option maxHeartbeats 4000000 in
set_option maxRecDepth 20000 in
theorem step42_12 {a y x : Nat} {id : Int} {e2 : Bool} {y2 x2 : Nat} (hs : sat W (cel a 40 [.int .i64 id, .int .i64 y, .int .i64 x] :: H) w) (hg : GS W H g) (hF : Fit g.gd n m) (hy : y < n) (hx : x < m) (hid : g.gd.id y = id) (ho : aft y x (goTo g.gd y x 12) = (y2, x2, e2)) :
    Calls Try.prog 42 #[.pointer (some ⟨a, 0, none⟩), .agg (gV g).toArray, .int .u8 12] w fun e' w' => e' = .returned (.bool (!e2)) ∧ sat W (cel a 40 [.int .i64 (g.gd.id y2), .int .i64 y2, .int .i64 x2] :: H) w' := by
  have HID := Lib.hid hid
  clear hid
  have he : (y, x, false) = (y2, x2, e2) := by rw [← ho]; simp [goTo, aft]
  cases he
  clear ho
  have hn := (hg.n_eq hF).1
  have h1 := hF.n1
  have h2 := hF.n12
  have h3 := hF.m1
  have h4 := hF.m600
  obtain ⟨b, off, b0, o0, c0, _, eb, hc0, _⟩ := hg.at_ hF hs.drop (y := 0) (by omega)
  have HC0 := Lib.hid hc0
  have HG := Lib.hid hg
  have HF := Lib.hid hF
  clear hc0 hg hF
  obtain ⟨aR, n', cR, aI, nI, cI, R, I, cy, cx, v1, v2, v3, v4, v5, v6, v7, v8⟩ := g
  obtain rfl : n = n' := hn.symm
  obtain rfl : aR = _ := eb
  go_enter Try.func42, Try.ntmps42
  go_upto_region 1 with fail
  have hs1 := hs.made (T := 34) (l := gV ⟨some ⟨b, off, none⟩, n, cR, aI, nI, cI, R, I, cy, cx, v1, v2, v3, v4, v5, v6, v7, v8⟩)
  clear hs
  have hs := hs1
  clear hs1
  generalize World.alloc w _ = w1 at hs ⊢
  generalize w.heap.size = zg at hs ⊢
  go_wp2_with (first | ((with_reducible refine isl ?_); first | ((with_reducible apply ldx); exact rfl; exact rfl; exact rfl; (first | exact hs.b0 | exact hs.b1); exact rfl; kernel_rfl) | ((with_reducible apply stx); exact rfl; exact rfl; exact rfl; (first | exact hs.b0 | exact hs.b1); exact rfl; exact rfl; exact rfl; kernel_rfl; exact rfl; clear hs; intro w hs) | ((with_reducible apply stcx); exact rfl; exact rfl; exact rfl; (first | exact hs.b0 | exact hs.b1); exact rfl; exact rfl; kernel_rfl; exact rfl; clear hs; intro w hs) | ((with_reducible refine wrap hs ?_); clear hs; intro w hs) | ((with_reducible refine wrapn hs ?_); clear hs; intro w hs) | ((with_reducible refine wrapd hs ?_); clear hs; intro w hs)))
  go_ret
  rw [HID.out]
  exact ⟨rfl, by refine sb_from ?_ hs; repeat constructor⟩

set_option maxHeartbeats 4000000 in
set_option maxRecDepth 20000 in
theorem step42_13 {a y x : Nat} {id : Int} {e2 : Bool} {y2 x2 : Nat} (hs : sat W (cel a 40 [.int .i64 id, .int .i64 y, .int .i64 x] :: H) w) (hg : GS W H g) (hF : Fit g.gd n m) (hy : y < n) (hx : x < m) (hid : g.gd.id y = id) (ho : aft y x (goTo g.gd y x 13) = (y2, x2, e2)) :
    Calls Try.prog 42 #[.pointer (some ⟨a, 0, none⟩), .agg (gV g).toArray, .int .u8 13] w fun e' w' => e' = .returned (.bool (!e2)) ∧ sat W (cel a 40 [.int .i64 (g.gd.id y2), .int .i64 y2, .int .i64 x2] :: H) w' := by
  have HID := Lib.hid hid
  clear hid
  have he : (y, x, false) = (y2, x2, e2) := by rw [← ho]; simp [goTo, aft]
  cases he
  clear ho
  have hn := (hg.n_eq hF).1
  have h1 := hF.n1
  have h2 := hF.n12
  have h3 := hF.m1
  have h4 := hF.m600
  obtain ⟨b, off, b0, o0, c0, _, eb, hc0, _⟩ := hg.at_ hF hs.drop (y := 0) (by omega)
  have HC0 := Lib.hid hc0
  have HG := Lib.hid hg
  have HF := Lib.hid hF
  clear hc0 hg hF
  obtain ⟨aR, n', cR, aI, nI, cI, R, I, cy, cx, v1, v2, v3, v4, v5, v6, v7, v8⟩ := g
  obtain rfl : n = n' := hn.symm
  obtain rfl : aR = _ := eb
  go_enter Try.func42, Try.ntmps42
  go_upto_region 1 with fail
  have hs1 := hs.made (T := 34) (l := gV ⟨some ⟨b, off, none⟩, n, cR, aI, nI, cI, R, I, cy, cx, v1, v2, v3, v4, v5, v6, v7, v8⟩)
  clear hs
  have hs := hs1
  clear hs1
  generalize World.alloc w _ = w1 at hs ⊢
  generalize w.heap.size = zg at hs ⊢
  go_wp2_with (first | ((with_reducible refine isl ?_); first | ((with_reducible apply ldx); exact rfl; exact rfl; exact rfl; (first | exact hs.b0 | exact hs.b1); exact rfl; kernel_rfl) | ((with_reducible apply stx); exact rfl; exact rfl; exact rfl; (first | exact hs.b0 | exact hs.b1); exact rfl; exact rfl; exact rfl; kernel_rfl; exact rfl; clear hs; intro w hs) | ((with_reducible apply stcx); exact rfl; exact rfl; exact rfl; (first | exact hs.b0 | exact hs.b1); exact rfl; exact rfl; kernel_rfl; exact rfl; clear hs; intro w hs) | ((with_reducible refine wrap hs ?_); clear hs; intro w hs) | ((with_reducible refine wrapn hs ?_); clear hs; intro w hs) | ((with_reducible refine wrapd hs ?_); clear hs; intro w hs)))
  go_ret
  rw [HID.out]
  exact ⟨rfl, by refine sb_from ?_ hs; repeat constructor⟩

set_option maxHeartbeats 4000000 in
set_option maxRecDepth 20000 in
theorem step42_14 {a y x : Nat} {id : Int} {e2 : Bool} {y2 x2 : Nat} (hs : sat W (cel a 40 [.int .i64 id, .int .i64 y, .int .i64 x] :: H) w) (hg : GS W H g) (hF : Fit g.gd n m) (hy : y < n) (hx : x < m) (hid : g.gd.id y = id) (ho : aft y x (goTo g.gd y x 14) = (y2, x2, e2)) :
    Calls Try.prog 42 #[.pointer (some ⟨a, 0, none⟩), .agg (gV g).toArray, .int .u8 14] w fun e' w' => e' = .returned (.bool (!e2)) ∧ sat W (cel a 40 [.int .i64 (g.gd.id y2), .int .i64 y2, .int .i64 x2] :: H) w' := by
  have HID := Lib.hid hid
  clear hid
  have he : (y, x, false) = (y2, x2, e2) := by rw [← ho]; simp [goTo, aft]
  cases he
  clear ho
  have hn := (hg.n_eq hF).1
  have h1 := hF.n1
  have h2 := hF.n12
  have h3 := hF.m1
  have h4 := hF.m600
  obtain ⟨b, off, b0, o0, c0, _, eb, hc0, _⟩ := hg.at_ hF hs.drop (y := 0) (by omega)
  have HC0 := Lib.hid hc0
  have HG := Lib.hid hg
  have HF := Lib.hid hF
  clear hc0 hg hF
  obtain ⟨aR, n', cR, aI, nI, cI, R, I, cy, cx, v1, v2, v3, v4, v5, v6, v7, v8⟩ := g
  obtain rfl : n = n' := hn.symm
  obtain rfl : aR = _ := eb
  go_enter Try.func42, Try.ntmps42
  go_upto_region 1 with fail
  have hs1 := hs.made (T := 34) (l := gV ⟨some ⟨b, off, none⟩, n, cR, aI, nI, cI, R, I, cy, cx, v1, v2, v3, v4, v5, v6, v7, v8⟩)
  clear hs
  have hs := hs1
  clear hs1
  generalize World.alloc w _ = w1 at hs ⊢
  generalize w.heap.size = zg at hs ⊢
  go_wp2_with (first | ((with_reducible refine isl ?_); first | ((with_reducible apply ldx); exact rfl; exact rfl; exact rfl; (first | exact hs.b0 | exact hs.b1); exact rfl; kernel_rfl) | ((with_reducible apply stx); exact rfl; exact rfl; exact rfl; (first | exact hs.b0 | exact hs.b1); exact rfl; exact rfl; exact rfl; kernel_rfl; exact rfl; clear hs; intro w hs) | ((with_reducible apply stcx); exact rfl; exact rfl; exact rfl; (first | exact hs.b0 | exact hs.b1); exact rfl; exact rfl; kernel_rfl; exact rfl; clear hs; intro w hs) | ((with_reducible refine wrap hs ?_); clear hs; intro w hs) | ((with_reducible refine wrapn hs ?_); clear hs; intro w hs) | ((with_reducible refine wrapd hs ?_); clear hs; intro w hs)))
  go_ret
  rw [HID.out]
  exact ⟨rfl, by refine sb_from ?_ hs; repeat constructor⟩

set_option maxHeartbeats 4000000 in
set_option maxRecDepth 20000 in
theorem step42_2 {a y x : Nat} {id : Int} {e2 : Bool} {y2 x2 : Nat} (hs : sat W (cel a 40 [.int .i64 id, .int .i64 y, .int .i64 x] :: H) w) (hg : GS W H g) (hF : Fit g.gd n m) (hy : y < n) (hx : x < m) (hid : g.gd.id y = id) (ho : aft y x (goTo g.gd y x 2) = (y2, x2, e2)) :
    Calls Try.prog 42 #[.pointer (some ⟨a, 0, none⟩), .agg (gV g).toArray, .int .u8 2] w fun e' w' => e' = .returned (.bool (!e2)) ∧ sat W (cel a 40 [.int .i64 (g.gd.id y2), .int .i64 y2, .int .i64 x2] :: H) w' := by
  have HID := Lib.hid hid
  clear hid
  obtain ⟨r, hr, hr2⟩ : ∃ r, sizeP g.gd y x = r ∧ r ≤ 2 := ⟨_, rfl, by unfold sizeP; split <;> omega⟩
  have HR := Lib.hid hr
  have hyx := And.intro hy hx
  have hgo : goTo g.gd y x 2 = if x + r < m then some (heldP g.gd y ((x : Int) + r)) else none := by simp [goTo, hr, hF.gm]
  rw [hgo] at ho
  clear hr hgo
  by_cases h0 : x + r < m
  · rw [if_pos h0] at ho
    obtain ⟨⟨p1, p2⟩, hp⟩ : ∃ p, heldP g.gd y ((x : Int) + r) = p := ⟨_, rfl⟩
    have he : (p1, p2, false) = (y2, x2, e2) := by rw [← ho, hp]; rfl
    cases he
    have HP := Lib.hid hp
    clear hp ho
    have hn := (hg.n_eq hF).1
    have h1 := hF.n1
    have h2 := hF.n12
    have h3 := hF.m1
    have h4 := hF.m600
    obtain ⟨b, off, b0, o0, c0, _, eb, hc0, _⟩ := hg.at_ hF hs.drop (y := 0) (by omega)
    have HC0 := Lib.hid hc0
    have HG := Lib.hid hg
    have HF := Lib.hid hF
    clear hc0 hg hF
    obtain ⟨aR, n', cR, aI, nI, cI, R, I, cy, cx, v1, v2, v3, v4, v5, v6, v7, v8⟩ := g
    obtain rfl : n = n' := hn.symm
    obtain rfl : aR = _ := eb
    have hy9 : (y : Int) < (n : Int) := by omega
    have hx9 : (x : Int) < (m : Int) := by omega
    have h19 : (0 : Int) < (n : Int) := by omega
    clear hy hx
    have hx0 : decide ((m : Int) ≤ (x : Int) + (r : Int)) = false := decide_eq_false (by omega)
    clear h0
    go_enter Try.func42, Try.ntmps42
    go_upto_region 1 with fail
    have hs1 := hs.made (T := 34) (l := gV ⟨some ⟨b, off, none⟩, n, cR, aI, nI, cI, R, I, cy, cx, v1, v2, v3, v4, v5, v6, v7, v8⟩)
    clear hs
    have hs := hs1
    clear hs1
    generalize World.alloc w _ = w1 at hs ⊢
    generalize w.heap.size = zg at hs ⊢
    go_upto_region 8 with (first | ((with_reducible refine isl ?_); first | ((with_reducible apply ldx); exact rfl; exact rfl; exact rfl; (first | exact hs.b0 | exact hs.b1); exact rfl; kernel_rfl) | ((with_reducible apply stx); exact rfl; exact rfl; exact rfl; (first | exact hs.b0 | exact hs.b1); exact rfl; exact rfl; exact rfl; kernel_rfl; exact rfl; clear hs; intro w hs) | ((with_reducible apply stcx); exact rfl; exact rfl; exact rfl; (first | exact hs.b0 | exact hs.b1); exact rfl; exact rfl; kernel_rfl; exact rfl; clear hs; intro w hs) | ((with_reducible refine wrap hs ?_); clear hs; intro w hs) | ((with_reducible refine wrapn hs ?_); clear hs; intro w hs) | ((with_reducible refine wrapd hs ?_); clear hs; intro w hs)))
    refine region_mix [([0, 1, 2, 3, 4, 5], [6])] [7, 8] hs (fun _ h => h) (by kernel_rfl) (by kernel_rfl) (fun _ _ _ _ _ h => h) ?_
    simp only [segs, nths, nth, List.append_nil, List.nil_append, List.cons_append, List.map_cons, List.map_nil]
    refine seg_reads (fun _ h => h) ?_; intro X f hne hf hcl; (try simp only [Act.put, List.setIfInBounds_toArray, List.set_cons_succ, List.set_cons_zero]); (repeat ((first | (first | ((with_reducible apply ldsq (cs := gV ⟨some ⟨b, off, none⟩, n, cR, aI, nI, cI, R, I, cy, cx, v1, v2, v3, v4, v5, v6, v7, v8⟩) 12 (fun x => (hf x).b0)); exact rfl; exact rfl; exact rfl; exact row34; exact rfl; exact rfl) | ((with_reducible apply ldsq (cs := gV ⟨some ⟨b, off, none⟩, n, cR, aI, nI, cI, R, I, cy, cx, v1, v2, v3, v4, v5, v6, v7, v8⟩) 12 (fun x => (hf x).b1)); exact rfl; exact rfl; exact rfl; exact row34; exact rfl; exact rfl) | ((with_reducible apply ldsq (cs := gV ⟨some ⟨b, off, none⟩, n, cR, aI, nI, cI, R, I, cy, cx, v1, v2, v3, v4, v5, v6, v7, v8⟩) 12 (fun x => (hf x).b2)); exact rfl; exact rfl; exact rfl; exact row34; exact rfl; exact rfl)) | ((with_reducible apply ldqx); exact rfl; exact rfl; exact rfl; (first | exact fun x => (hf x).b0 | exact fun x => (hf x).b1); exact rfl; kernel_rfl) | go_big_quiet_step (fail)); (try simp only [Act.put, List.setIfInBounds_toArray, List.set_cons_succ, List.set_cons_zero]))); refine wpQuiet_nil ?_; clear hcl hf hne hs f X; intro w hs
    go_wp2_with (first | (go_at_call 43; first | (refine (rsize43 (g := ⟨some ⟨b, off, none⟩, n, cR, aI, nI, cI, R, I, cy, cx, v1, v2, v3, v4, v5, v6, v7, v8⟩) hs.b0 (by (repeat first | exact HG.out | apply GS.more)) HF.out hyx.1 hyx.2 HR.out).mono ?_; clear hs; rintro e w ⟨rfl, hs⟩; replace hs : sat W (cel zg 34 (gV ⟨some ⟨b, off, none⟩, n, cR, aI, nI, cI, R, I, cy, cx, v1, v2, v3, v4, v5, v6, v7, v8⟩) :: cel a 40 [.int .i64 id, .int .i64 y, .int .i64 x] :: H) w := by refine sb_from ?_ hs; repeat constructor) | (refine (rsize43 (g := ⟨some ⟨b, off, none⟩, n, cR, aI, nI, cI, R, I, cy, cx, v1, v2, v3, v4, v5, v6, v7, v8⟩) hs.b1 (by (repeat first | exact HG.out | apply GS.more)) HF.out hyx.1 hyx.2 HR.out).mono ?_; clear hs; rintro e w ⟨rfl, hs⟩; replace hs : sat W (cel zg 34 (gV ⟨some ⟨b, off, none⟩, n, cR, aI, nI, cI, R, I, cy, cx, v1, v2, v3, v4, v5, v6, v7, v8⟩) :: cel a 40 [.int .i64 id, .int .i64 y, .int .i64 x] :: H) w := by refine sb_from ?_ hs; repeat constructor) | (refine (rsize43 (g := ⟨some ⟨b, off, none⟩, n, cR, aI, nI, cI, R, I, cy, cx, v1, v2, v3, v4, v5, v6, v7, v8⟩) hs.b2 (by (repeat first | exact HG.out | apply GS.more)) HF.out hyx.1 hyx.2 HR.out).mono ?_; clear hs; rintro e w ⟨rfl, hs⟩; replace hs : sat W (cel zg 34 (gV ⟨some ⟨b, off, none⟩, n, cR, aI, nI, cI, R, I, cy, cx, v1, v2, v3, v4, v5, v6, v7, v8⟩) :: cel a 40 [.int .i64 id, .int .i64 y, .int .i64 x] :: H) w := by refine sb_from ?_ hs; repeat constructor)) | ((with_reducible refine isl ?_); first | ((with_reducible refine wrap hs ?_); clear hs; intro w hs) | ((with_reducible refine wrapn hs ?_); clear hs; intro w hs) | ((with_reducible refine wrapd hs ?_); clear hs; intro w hs)))
    (first | (refine seg_on hs (by first | exact fun _ h => h | exact fun _ h => h.drop | exact fun _ h => h.drop.drop | exact fun _ h => h.drop.drop.drop) (fun _ h => h) ?_; clear hs; intro hs) | (refine seg_on hs.made (by first | exact fun _ h => h | exact fun _ h => h.drop | exact fun _ h => h.drop.drop | exact fun _ h => h.drop.drop.drop) (fun _ h => h) ?_; clear hs; intro hs) | (refine seg_on hs.drew (by first | exact fun _ h => h | exact fun _ h => h.drop | exact fun _ h => h.drop.drop | exact fun _ h => h.drop.drop.drop) (fun _ h => h) ?_; clear hs; intro hs) | (refine seg_on hs.drew.made (by first | exact fun _ h => h | exact fun _ h => h.drop | exact fun _ h => h.drop.drop | exact fun _ h => h.drop.drop.drop) (fun _ h => h) ?_; clear hs; intro hs) | (refine seg_on (hs.drewN _) (by first | exact fun _ h => h | exact fun _ h => h.drop | exact fun _ h => h.drop.drop | exact fun _ h => h.drop.drop.drop) (fun _ h => h) ?_; clear hs; intro hs))
    refine seg_last (fun _ h => h) ?_; intro X f hne hf hcl; (try simp only [Act.put, List.setIfInBounds_toArray, List.set_cons_succ, List.set_cons_zero]); (repeat ((first | (first | ((with_reducible apply ldsq (cs := gV ⟨some ⟨b, off, none⟩, n, cR, aI, nI, cI, R, I, cy, cx, v1, v2, v3, v4, v5, v6, v7, v8⟩) 12 (fun x => (hf x).b0)); exact rfl; exact rfl; exact rfl; exact row34; exact rfl; exact rfl) | ((with_reducible apply ldsq (cs := gV ⟨some ⟨b, off, none⟩, n, cR, aI, nI, cI, R, I, cy, cx, v1, v2, v3, v4, v5, v6, v7, v8⟩) 12 (fun x => (hf x).b1)); exact rfl; exact rfl; exact rfl; exact row34; exact rfl; exact rfl) | ((with_reducible apply ldsq (cs := gV ⟨some ⟨b, off, none⟩, n, cR, aI, nI, cI, R, I, cy, cx, v1, v2, v3, v4, v5, v6, v7, v8⟩) 12 (fun x => (hf x).b2)); exact rfl; exact rfl; exact rfl; exact row34; exact rfl; exact rfl)) | ((with_reducible apply ldqx); exact rfl; exact rfl; exact rfl; (first | exact fun x => (hf x).b0 | exact fun x => (hf x).b1); exact rfl; kernel_rfl) | go_big_quiet_step (fail)); (try simp only [Act.put, List.setIfInBounds_toArray, List.set_cons_succ, List.set_cons_zero]))); refine wpQuiet_nil ?_; clear hcl hf hne hs f X; intro w hs
    go_upto_region 11 with (first | (apply ldc; exact rfl; exact rfl; exact rfl; (first | exact HC0.out _ (hs.dropN 0) | exact HC0.out _ (hs.dropN 1) | exact HC0.out _ (hs.dropN 2) | exact HC0.out _ (hs.dropN 3) | exact HC0.out _ (hs.dropN 4) | exact HC0.out _ (hs.dropN 5) | exact HC0.out _ (hs.dropN 6) | exact HC0.out _ (hs.dropN 7)); exact one57) | ((with_reducible refine isl ?_); first | ((with_reducible apply ldx); exact rfl; exact rfl; exact rfl; (first | exact hs.b0 | exact hs.b1); exact rfl; kernel_rfl) | ((with_reducible apply stx); exact rfl; exact rfl; exact rfl; (first | exact hs.b0 | exact hs.b1); exact rfl; exact rfl; exact rfl; kernel_rfl; exact rfl; clear hs; intro w hs) | ((with_reducible apply stcx); exact rfl; exact rfl; exact rfl; (first | exact hs.b0 | exact hs.b1); exact rfl; exact rfl; kernel_rfl; exact rfl; clear hs; intro w hs) | ((with_reducible refine wrap hs ?_); clear hs; intro w hs) | ((with_reducible refine wrapn hs ?_); clear hs; intro w hs) | ((with_reducible refine wrapd hs ?_); clear hs; intro w hs)))
    ((try simp only [Act.put, List.setIfInBounds_toArray, List.set_cons_succ, List.set_cons_zero]); refine region_tail 7 hs (by kernel_rfl) (by kernel_rfl) ?_; simp only [List.take_succ_cons, List.take_zero, List.drop_succ_cons, List.drop_zero]; clear hs; intro w hs; (repeat ((first | (first | (apply ldst 12 hs.b0; exact rfl; exact rfl; exact rfl; exact row34; exact rfl; exact rfl) | (apply ldst 12 hs.b1; exact rfl; exact rfl; exact rfl; exact row34; exact rfl; exact rfl) | (apply ldst 12 hs.b2; exact rfl; exact rfl; exact rfl; exact row34; exact rfl; exact rfl)) | ((with_reducible apply ldt hs.b0); exact rfl; exact rfl; exact rfl; exact rfl; kernel_rfl) | ((with_reducible apply ldt hs.b1); exact rfl; exact rfl; exact rfl; exact rfl; kernel_rfl) | go_big_quiet_step (fail)); (try simp only [Act.put, List.setIfInBounds_toArray, List.set_cons_succ, List.set_cons_zero]))); refine wpQuiet_nil ?_)
    go_wp2_with (first | (go_at_call 25; first | (refine (put25 (g := ⟨some ⟨b, off, none⟩, n, cR, aI, nI, cI, R, I, cy, cx, v1, v2, v3, v4, v5, v6, v7, v8⟩) (py := y) (px := (x : Int) + r) hs.b0 (by (repeat first | exact HG.out | apply GS.more)) HF.out HP.out).mono ?_; clear hs; rintro e w ⟨rfl, hs⟩) | (refine (put25 (g := ⟨some ⟨b, off, none⟩, n, cR, aI, nI, cI, R, I, cy, cx, v1, v2, v3, v4, v5, v6, v7, v8⟩) (py := y) (px := (x : Int) + r) hs.b1 (by (repeat first | exact HG.out | apply GS.more)) HF.out HP.out).mono ?_; clear hs; rintro e w ⟨rfl, hs⟩) | (refine (put25 (g := ⟨some ⟨b, off, none⟩, n, cR, aI, nI, cI, R, I, cy, cx, v1, v2, v3, v4, v5, v6, v7, v8⟩) (py := y) (px := (x : Int) + r) hs.b2 (by (repeat first | exact HG.out | apply GS.more)) HF.out HP.out).mono ?_; clear hs; rintro e w ⟨rfl, hs⟩)) | ((with_reducible refine isl ?_); first | ((with_reducible apply ldx); exact rfl; exact rfl; exact rfl; (first | exact hs.b0 | exact hs.b1); exact rfl; kernel_rfl) | ((with_reducible apply stx); exact rfl; exact rfl; exact rfl; (first | exact hs.b0 | exact hs.b1); exact rfl; exact rfl; exact rfl; kernel_rfl; exact rfl; clear hs; intro w hs) | ((with_reducible apply stcx); exact rfl; exact rfl; exact rfl; (first | exact hs.b0 | exact hs.b1); exact rfl; exact rfl; kernel_rfl; exact rfl; clear hs; intro w hs) | ((with_reducible refine wrap hs ?_); clear hs; intro w hs) | ((with_reducible refine wrapn hs ?_); clear hs; intro w hs) | ((with_reducible refine wrapd hs ?_); clear hs; intro w hs)))
    go_ret
    exact ⟨rfl, by refine sb_from ?_ hs; repeat constructor⟩
  · rw [if_neg h0] at ho
    have he : (y, x, true) = (y2, x2, e2) := by rw [← ho]; rfl
    cases he
    clear ho
    have hn := (hg.n_eq hF).1
    have h1 := hF.n1
    have h2 := hF.n12
    have h3 := hF.m1
    have h4 := hF.m600
    obtain ⟨b, off, b0, o0, c0, _, eb, hc0, _⟩ := hg.at_ hF hs.drop (y := 0) (by omega)
    have HC0 := Lib.hid hc0
    have HG := Lib.hid hg
    have HF := Lib.hid hF
    clear hc0 hg hF
    obtain ⟨aR, n', cR, aI, nI, cI, R, I, cy, cx, v1, v2, v3, v4, v5, v6, v7, v8⟩ := g
    obtain rfl : n = n' := hn.symm
    obtain rfl : aR = _ := eb
    have hy9 : (y : Int) < (n : Int) := by omega
    have hx9 : (x : Int) < (m : Int) := by omega
    have h19 : (0 : Int) < (n : Int) := by omega
    clear hy hx
    have hx0 : decide ((m : Int) ≤ (x : Int) + (r : Int)) = true := decide_eq_true (by omega)
    clear h0
    go_enter Try.func42, Try.ntmps42
    go_upto_region 1 with fail
    have hs1 := hs.made (T := 34) (l := gV ⟨some ⟨b, off, none⟩, n, cR, aI, nI, cI, R, I, cy, cx, v1, v2, v3, v4, v5, v6, v7, v8⟩)
    clear hs
    have hs := hs1
    clear hs1
    generalize World.alloc w _ = w1 at hs ⊢
    generalize w.heap.size = zg at hs ⊢
    go_upto_region 8 with (first | ((with_reducible refine isl ?_); first | ((with_reducible apply ldx); exact rfl; exact rfl; exact rfl; (first | exact hs.b0 | exact hs.b1); exact rfl; kernel_rfl) | ((with_reducible apply stx); exact rfl; exact rfl; exact rfl; (first | exact hs.b0 | exact hs.b1); exact rfl; exact rfl; exact rfl; kernel_rfl; exact rfl; clear hs; intro w hs) | ((with_reducible apply stcx); exact rfl; exact rfl; exact rfl; (first | exact hs.b0 | exact hs.b1); exact rfl; exact rfl; kernel_rfl; exact rfl; clear hs; intro w hs) | ((with_reducible refine wrap hs ?_); clear hs; intro w hs) | ((with_reducible refine wrapn hs ?_); clear hs; intro w hs) | ((with_reducible refine wrapd hs ?_); clear hs; intro w hs)))
    refine region_mix [([0, 1, 2, 3, 4, 5], [6])] [7, 8] hs (fun _ h => h) (by kernel_rfl) (by kernel_rfl) (fun _ _ _ _ _ h => h) ?_
    simp only [segs, nths, nth, List.append_nil, List.nil_append, List.cons_append, List.map_cons, List.map_nil]
    refine seg_reads (fun _ h => h) ?_; intro X f hne hf hcl; (try simp only [Act.put, List.setIfInBounds_toArray, List.set_cons_succ, List.set_cons_zero]); (repeat ((first | (first | ((with_reducible apply ldsq (cs := gV ⟨some ⟨b, off, none⟩, n, cR, aI, nI, cI, R, I, cy, cx, v1, v2, v3, v4, v5, v6, v7, v8⟩) 12 (fun x => (hf x).b0)); exact rfl; exact rfl; exact rfl; exact row34; exact rfl; exact rfl) | ((with_reducible apply ldsq (cs := gV ⟨some ⟨b, off, none⟩, n, cR, aI, nI, cI, R, I, cy, cx, v1, v2, v3, v4, v5, v6, v7, v8⟩) 12 (fun x => (hf x).b1)); exact rfl; exact rfl; exact rfl; exact row34; exact rfl; exact rfl) | ((with_reducible apply ldsq (cs := gV ⟨some ⟨b, off, none⟩, n, cR, aI, nI, cI, R, I, cy, cx, v1, v2, v3, v4, v5, v6, v7, v8⟩) 12 (fun x => (hf x).b2)); exact rfl; exact rfl; exact rfl; exact row34; exact rfl; exact rfl)) | ((with_reducible apply ldqx); exact rfl; exact rfl; exact rfl; (first | exact fun x => (hf x).b0 | exact fun x => (hf x).b1); exact rfl; kernel_rfl) | go_big_quiet_step (fail)); (try simp only [Act.put, List.setIfInBounds_toArray, List.set_cons_succ, List.set_cons_zero]))); refine wpQuiet_nil ?_; clear hcl hf hne hs f X; intro w hs
    go_wp2_with (first | (go_at_call 43; first | (refine (rsize43 (g := ⟨some ⟨b, off, none⟩, n, cR, aI, nI, cI, R, I, cy, cx, v1, v2, v3, v4, v5, v6, v7, v8⟩) hs.b0 (by (repeat first | exact HG.out | apply GS.more)) HF.out hyx.1 hyx.2 HR.out).mono ?_; clear hs; rintro e w ⟨rfl, hs⟩; replace hs : sat W (cel zg 34 (gV ⟨some ⟨b, off, none⟩, n, cR, aI, nI, cI, R, I, cy, cx, v1, v2, v3, v4, v5, v6, v7, v8⟩) :: cel a 40 [.int .i64 id, .int .i64 y, .int .i64 x] :: H) w := by refine sb_from ?_ hs; repeat constructor) | (refine (rsize43 (g := ⟨some ⟨b, off, none⟩, n, cR, aI, nI, cI, R, I, cy, cx, v1, v2, v3, v4, v5, v6, v7, v8⟩) hs.b1 (by (repeat first | exact HG.out | apply GS.more)) HF.out hyx.1 hyx.2 HR.out).mono ?_; clear hs; rintro e w ⟨rfl, hs⟩; replace hs : sat W (cel zg 34 (gV ⟨some ⟨b, off, none⟩, n, cR, aI, nI, cI, R, I, cy, cx, v1, v2, v3, v4, v5, v6, v7, v8⟩) :: cel a 40 [.int .i64 id, .int .i64 y, .int .i64 x] :: H) w := by refine sb_from ?_ hs; repeat constructor) | (refine (rsize43 (g := ⟨some ⟨b, off, none⟩, n, cR, aI, nI, cI, R, I, cy, cx, v1, v2, v3, v4, v5, v6, v7, v8⟩) hs.b2 (by (repeat first | exact HG.out | apply GS.more)) HF.out hyx.1 hyx.2 HR.out).mono ?_; clear hs; rintro e w ⟨rfl, hs⟩; replace hs : sat W (cel zg 34 (gV ⟨some ⟨b, off, none⟩, n, cR, aI, nI, cI, R, I, cy, cx, v1, v2, v3, v4, v5, v6, v7, v8⟩) :: cel a 40 [.int .i64 id, .int .i64 y, .int .i64 x] :: H) w := by refine sb_from ?_ hs; repeat constructor)) | ((with_reducible refine isl ?_); first | ((with_reducible refine wrap hs ?_); clear hs; intro w hs) | ((with_reducible refine wrapn hs ?_); clear hs; intro w hs) | ((with_reducible refine wrapd hs ?_); clear hs; intro w hs)))
    (first | (refine seg_on hs (by first | exact fun _ h => h | exact fun _ h => h.drop | exact fun _ h => h.drop.drop | exact fun _ h => h.drop.drop.drop) (fun _ h => h) ?_; clear hs; intro hs) | (refine seg_on hs.made (by first | exact fun _ h => h | exact fun _ h => h.drop | exact fun _ h => h.drop.drop | exact fun _ h => h.drop.drop.drop) (fun _ h => h) ?_; clear hs; intro hs) | (refine seg_on hs.drew (by first | exact fun _ h => h | exact fun _ h => h.drop | exact fun _ h => h.drop.drop | exact fun _ h => h.drop.drop.drop) (fun _ h => h) ?_; clear hs; intro hs) | (refine seg_on hs.drew.made (by first | exact fun _ h => h | exact fun _ h => h.drop | exact fun _ h => h.drop.drop | exact fun _ h => h.drop.drop.drop) (fun _ h => h) ?_; clear hs; intro hs) | (refine seg_on (hs.drewN _) (by first | exact fun _ h => h | exact fun _ h => h.drop | exact fun _ h => h.drop.drop | exact fun _ h => h.drop.drop.drop) (fun _ h => h) ?_; clear hs; intro hs))
    refine seg_last (fun _ h => h) ?_; intro X f hne hf hcl; (try simp only [Act.put, List.setIfInBounds_toArray, List.set_cons_succ, List.set_cons_zero]); (repeat ((first | (first | ((with_reducible apply ldsq (cs := gV ⟨some ⟨b, off, none⟩, n, cR, aI, nI, cI, R, I, cy, cx, v1, v2, v3, v4, v5, v6, v7, v8⟩) 12 (fun x => (hf x).b0)); exact rfl; exact rfl; exact rfl; exact row34; exact rfl; exact rfl) | ((with_reducible apply ldsq (cs := gV ⟨some ⟨b, off, none⟩, n, cR, aI, nI, cI, R, I, cy, cx, v1, v2, v3, v4, v5, v6, v7, v8⟩) 12 (fun x => (hf x).b1)); exact rfl; exact rfl; exact rfl; exact row34; exact rfl; exact rfl) | ((with_reducible apply ldsq (cs := gV ⟨some ⟨b, off, none⟩, n, cR, aI, nI, cI, R, I, cy, cx, v1, v2, v3, v4, v5, v6, v7, v8⟩) 12 (fun x => (hf x).b2)); exact rfl; exact rfl; exact rfl; exact row34; exact rfl; exact rfl)) | ((with_reducible apply ldqx); exact rfl; exact rfl; exact rfl; (first | exact fun x => (hf x).b0 | exact fun x => (hf x).b1); exact rfl; kernel_rfl) | go_big_quiet_step (fail)); (try simp only [Act.put, List.setIfInBounds_toArray, List.set_cons_succ, List.set_cons_zero]))); refine wpQuiet_nil ?_; clear hcl hf hne hs f X; intro w hs
    go_wp2_with (first | (apply ldc; exact rfl; exact rfl; exact rfl; (first | exact HC0.out _ (hs.dropN 0) | exact HC0.out _ (hs.dropN 1) | exact HC0.out _ (hs.dropN 2) | exact HC0.out _ (hs.dropN 3) | exact HC0.out _ (hs.dropN 4) | exact HC0.out _ (hs.dropN 5) | exact HC0.out _ (hs.dropN 6) | exact HC0.out _ (hs.dropN 7)); exact one57) | ((with_reducible refine isl ?_); first | ((with_reducible apply ldx); exact rfl; exact rfl; exact rfl; (first | exact hs.b0 | exact hs.b1); exact rfl; kernel_rfl) | ((with_reducible apply stx); exact rfl; exact rfl; exact rfl; (first | exact hs.b0 | exact hs.b1); exact rfl; exact rfl; exact rfl; kernel_rfl; exact rfl; clear hs; intro w hs) | ((with_reducible apply stcx); exact rfl; exact rfl; exact rfl; (first | exact hs.b0 | exact hs.b1); exact rfl; exact rfl; kernel_rfl; exact rfl; clear hs; intro w hs) | ((with_reducible refine wrap hs ?_); clear hs; intro w hs) | ((with_reducible refine wrapn hs ?_); clear hs; intro w hs) | ((with_reducible refine wrapd hs ?_); clear hs; intro w hs)))
    go_ret
    rw [HID.out]
    exact ⟨rfl, by refine sb_from ?_ hs; repeat constructor⟩

set_option maxHeartbeats 4000000 in
set_option maxRecDepth 20000 in
theorem step42_5 {a y x : Nat} {id : Int} {e2 : Bool} {y2 x2 : Nat} (hs : sat W (cel a 40 [.int .i64 id, .int .i64 y, .int .i64 x] :: H) w) (hg : GS W H g) (hF : Fit g.gd n m) (hy : y < n) (hx : x < m) (hid : g.gd.id y = id) (ho : aft y x (goTo g.gd y x 5) = (y2, x2, e2)) :
    Calls Try.prog 42 #[.pointer (some ⟨a, 0, none⟩), .agg (gV g).toArray, .int .u8 5] w fun e' w' => e' = .returned (.bool (!e2)) ∧ sat W (cel a 40 [.int .i64 (g.gd.id y2), .int .i64 y2, .int .i64 x2] :: H) w' := by
  have HID := Lib.hid hid
  clear hid
  have hl : leftW g.gd y x = goTo g.gd y x 5 := by simp [goTo]
  have HL := Lib.hid hl
  have HO := Lib.hid ho
  have hn := (hg.n_eq hF).1
  have h1 := hF.n1
  have h2 := hF.n12
  have h3 := hF.m1
  have h4 := hF.m600
  obtain ⟨b, off, b0, o0, c0, _, eb, hc0, _⟩ := hg.at_ hF hs.drop (y := 0) (by omega)
  have HC0 := Lib.hid hc0
  have HG := Lib.hid hg
  have HF := Lib.hid hF
  clear hc0 hg hF
  obtain ⟨aR, n', cR, aI, nI, cI, R, I, cy, cx, v1, v2, v3, v4, v5, v6, v7, v8⟩ := g
  obtain rfl : n = n' := hn.symm
  obtain rfl : aR = _ := eb
  go_enter Try.func42, Try.ntmps42
  go_upto_region 1 with fail
  have hs1 := hs.made (T := 34) (l := gV ⟨some ⟨b, off, none⟩, n, cR, aI, nI, cI, R, I, cy, cx, v1, v2, v3, v4, v5, v6, v7, v8⟩)
  clear hs
  have hs := hs1
  clear hs1
  generalize World.alloc w _ = w1 at hs ⊢
  generalize w.heap.size = zg at hs ⊢
  go_wp2_with (first | (go_at_call 63; first | (refine (wleft63 (g := ⟨some ⟨b, off, none⟩, n, cR, aI, nI, cI, R, I, cy, cx, v1, v2, v3, v4, v5, v6, v7, v8⟩) (o := goTo (Gm.gd ⟨some ⟨b, off, none⟩, n, cR, aI, nI, cI, R, I, cy, cx, v1, v2, v3, v4, v5, v6, v7, v8⟩) y x 5) hs.b0 (by (repeat first | exact HG.out | apply GS.more)) HF.out hy hx HID.out HL.out HO.out).mono ?_; clear hs; rintro e w ⟨rfl, hs⟩) | (refine (wleft63 (g := ⟨some ⟨b, off, none⟩, n, cR, aI, nI, cI, R, I, cy, cx, v1, v2, v3, v4, v5, v6, v7, v8⟩) (o := goTo (Gm.gd ⟨some ⟨b, off, none⟩, n, cR, aI, nI, cI, R, I, cy, cx, v1, v2, v3, v4, v5, v6, v7, v8⟩) y x 5) hs.b1 (by (repeat first | exact HG.out | apply GS.more)) HF.out hy hx HID.out HL.out HO.out).mono ?_; clear hs; rintro e w ⟨rfl, hs⟩) | (refine (wleft63 (g := ⟨some ⟨b, off, none⟩, n, cR, aI, nI, cI, R, I, cy, cx, v1, v2, v3, v4, v5, v6, v7, v8⟩) (o := goTo (Gm.gd ⟨some ⟨b, off, none⟩, n, cR, aI, nI, cI, R, I, cy, cx, v1, v2, v3, v4, v5, v6, v7, v8⟩) y x 5) hs.b2 (by (repeat first | exact HG.out | apply GS.more)) HF.out hy hx HID.out HL.out HO.out).mono ?_; clear hs; rintro e w ⟨rfl, hs⟩)) | ((with_reducible refine isl ?_); first | ((with_reducible apply ldswx); exact rfl; exact rfl; exact rfl; (first | exact hs.b0 | exact hs.b1); exact row34) | ((with_reducible apply ldx); exact rfl; exact rfl; exact rfl; (first | exact hs.b0 | exact hs.b1); exact rfl; kernel_rfl) | ((with_reducible apply stx); exact rfl; exact rfl; exact rfl; (first | exact hs.b0 | exact hs.b1); exact rfl; exact rfl; exact rfl; kernel_rfl; exact rfl; clear hs; intro w hs) | ((with_reducible apply stcx); exact rfl; exact rfl; exact rfl; (first | exact hs.b0 | exact hs.b1); exact rfl; exact rfl; kernel_rfl; exact rfl; clear hs; intro w hs) | ((with_reducible refine wrap hs ?_); clear hs; intro w hs) | ((with_reducible refine wrapn hs ?_); clear hs; intro w hs) | ((with_reducible refine wrapd hs ?_); clear hs; intro w hs)))
  go_ret
  exact ⟨rfl, by refine sb_from ?_ hs; repeat constructor⟩

set_option maxHeartbeats 4000000 in
set_option maxRecDepth 20000 in
theorem step42_6 {a y x : Nat} {id : Int} {e2 : Bool} {y2 x2 : Nat} (hs : sat W (cel a 40 [.int .i64 id, .int .i64 y, .int .i64 x] :: H) w) (hg : GS W H g) (hF : Fit g.gd n m) (hy : y < n) (hx : x < m) (hid : g.gd.id y = id) (ho : aft y x (goTo g.gd y x 6) = (y2, x2, e2)) :
    Calls Try.prog 42 #[.pointer (some ⟨a, 0, none⟩), .agg (gV g).toArray, .int .u8 6] w fun e' w' => e' = .returned (.bool (!e2)) ∧ sat W (cel a 40 [.int .i64 (g.gd.id y2), .int .i64 y2, .int .i64 x2] :: H) w' := by
  have HID := Lib.hid hid
  clear hid
  have hl : rightW g.gd (n - y) y x = goTo g.gd y x 6 := by simp [goTo, hF.gn]
  have HL := Lib.hid hl
  have HO := Lib.hid ho
  have hn := (hg.n_eq hF).1
  have h1 := hF.n1
  have h2 := hF.n12
  have h3 := hF.m1
  have h4 := hF.m600
  obtain ⟨b, off, b0, o0, c0, _, eb, hc0, _⟩ := hg.at_ hF hs.drop (y := 0) (by omega)
  have HC0 := Lib.hid hc0
  have HG := Lib.hid hg
  have HF := Lib.hid hF
  clear hc0 hg hF
  obtain ⟨aR, n', cR, aI, nI, cI, R, I, cy, cx, v1, v2, v3, v4, v5, v6, v7, v8⟩ := g
  obtain rfl : n = n' := hn.symm
  obtain rfl : aR = _ := eb
  go_enter Try.func42, Try.ntmps42
  go_upto_region 1 with fail
  have hs1 := hs.made (T := 34) (l := gV ⟨some ⟨b, off, none⟩, n, cR, aI, nI, cI, R, I, cy, cx, v1, v2, v3, v4, v5, v6, v7, v8⟩)
  clear hs
  have hs := hs1
  clear hs1
  generalize World.alloc w _ = w1 at hs ⊢
  generalize w.heap.size = zg at hs ⊢
  go_wp2_with (first | (go_at_call 64; first | (refine (wright64 (g := ⟨some ⟨b, off, none⟩, n, cR, aI, nI, cI, R, I, cy, cx, v1, v2, v3, v4, v5, v6, v7, v8⟩) (o := goTo (Gm.gd ⟨some ⟨b, off, none⟩, n, cR, aI, nI, cI, R, I, cy, cx, v1, v2, v3, v4, v5, v6, v7, v8⟩) y x 6) hs.b0 (by (repeat first | exact HG.out | apply GS.more)) HF.out hy hx HID.out HL.out HO.out).mono ?_; clear hs; rintro e w ⟨rfl, hs⟩) | (refine (wright64 (g := ⟨some ⟨b, off, none⟩, n, cR, aI, nI, cI, R, I, cy, cx, v1, v2, v3, v4, v5, v6, v7, v8⟩) (o := goTo (Gm.gd ⟨some ⟨b, off, none⟩, n, cR, aI, nI, cI, R, I, cy, cx, v1, v2, v3, v4, v5, v6, v7, v8⟩) y x 6) hs.b1 (by (repeat first | exact HG.out | apply GS.more)) HF.out hy hx HID.out HL.out HO.out).mono ?_; clear hs; rintro e w ⟨rfl, hs⟩) | (refine (wright64 (g := ⟨some ⟨b, off, none⟩, n, cR, aI, nI, cI, R, I, cy, cx, v1, v2, v3, v4, v5, v6, v7, v8⟩) (o := goTo (Gm.gd ⟨some ⟨b, off, none⟩, n, cR, aI, nI, cI, R, I, cy, cx, v1, v2, v3, v4, v5, v6, v7, v8⟩) y x 6) hs.b2 (by (repeat first | exact HG.out | apply GS.more)) HF.out hy hx HID.out HL.out HO.out).mono ?_; clear hs; rintro e w ⟨rfl, hs⟩)) | ((with_reducible refine isl ?_); first | ((with_reducible apply ldswx); exact rfl; exact rfl; exact rfl; (first | exact hs.b0 | exact hs.b1); exact row34) | ((with_reducible apply ldx); exact rfl; exact rfl; exact rfl; (first | exact hs.b0 | exact hs.b1); exact rfl; kernel_rfl) | ((with_reducible apply stx); exact rfl; exact rfl; exact rfl; (first | exact hs.b0 | exact hs.b1); exact rfl; exact rfl; exact rfl; kernel_rfl; exact rfl; clear hs; intro w hs) | ((with_reducible apply stcx); exact rfl; exact rfl; exact rfl; (first | exact hs.b0 | exact hs.b1); exact rfl; exact rfl; kernel_rfl; exact rfl; clear hs; intro w hs) | ((with_reducible refine wrap hs ?_); clear hs; intro w hs) | ((with_reducible refine wrapn hs ?_); clear hs; intro w hs) | ((with_reducible refine wrapd hs ?_); clear hs; intro w hs)))
  go_ret
  exact ⟨rfl, by refine sb_from ?_ hs; repeat constructor⟩
end Go.Proofs.Ytcheljogpffabaa
namespace Go.Proofs.Ytcheljogpffabaa
open Go.RowKit Go.Mem Go.Words Go.Deep Go.Rev
variable {W w : World} {H : List HProp} {g : Gm} {n m : Nat}
attribute [local irreducible] rowTy oneTy World.setCell World.setCells World.alloc World.drew World.drewN Calls sat cel own blk old wpQuiet wpList tx onP
set_option maxHeartbeats 4000000 in
set_option maxRecDepth 20000 in
theorem step42_8 {a y x : Nat} {id : Int} {e2 : Bool} {y2 x2 : Nat} (hs : sat W (cel a 40 [.int .i64 id, .int .i64 y, .int .i64 x] :: H) w) (hg : GS W H g) (hF : Fit g.gd n m) (hy : y < n) (hx : x < m) (hid : g.gd.id y = id) (ho : aft y x (goTo g.gd y x 8) = (y2, x2, e2)) :
    Calls Try.prog 42 #[.pointer (some ⟨a, 0, none⟩), .agg (gV g).toArray, .int .u8 8] w fun e' w' => e' = .returned (.bool (!e2)) ∧ sat W (cel a 40 [.int .i64 (g.gd.id y2), .int .i64 y2, .int .i64 x2] :: H) w' := by
  have HID := Lib.hid hid
  clear hid
  obtain ⟨z, hz⟩ : ∃ z, endX (g.gd.bl y) = z := ⟨_, rfl⟩
  have hgo : goTo g.gd y x 8 = some (heldP g.gd y (z : Int)) := by simp [goTo, hz]
  rw [hgo] at ho
  obtain ⟨⟨p1, p2⟩, hp⟩ : ∃ p, heldP g.gd y (z : Int) = p := ⟨_, rfl⟩
  have he : (p1, p2, false) = (y2, x2, e2) := by rw [← ho, hp]; rfl
  cases he
  have HP := Lib.hid hp
  have HZ := Lib.hid hz
  clear hp ho hgo hz
  obtain ⟨bL, hbL⟩ : ∃ q, g.gd.bl y = q := ⟨_, rfl⟩
  rw [hbL] at HZ
  have hn := (hg.n_eq hF).1
  have h1 := hF.n1
  have h2 := hF.n12
  have h3 := hF.m1
  have h4 := hF.m600
  obtain ⟨b, off, bq, oq, cq, L, eb, hcr, _, hcs, hrw, hsz⟩ := hg.at_ hF hs.drop hy
  have HCR := Lib.hid hcr
  have HCS := Lib.hid hcs
  have HBL : Hid (bL = (cl L).map isB) := Lib.hid (by rw [← hbL, ← hrw]; rfl)
  have HLN : Hid (L.length = m) := Lib.hid (hcs.len.1.symm)
  have HG := Lib.hid hg
  have HF := Lib.hid hF
  clear hg hF hcr hcs hrw hsz hbL
  obtain ⟨aR, n', cR, aI, nI, cI, R, I, cy, cx, v1, v2, v3, v4, v5, v6, v7, v8⟩ := g
  obtain rfl : n = n' := hn.symm
  obtain rfl : aR = _ := eb
  have hy9 : (y : Int) < (n : Int) := by omega
  have hx9 : (x : Int) < (m : Int) := by omega
  have h19 : (0 : Int) < (n : Int) := by omega
  clear hy hx
  go_enter Try.func42, Try.ntmps42
  go_upto_region 1 with fail
  have hs1 := hs.made (T := 34) (l := gV ⟨some ⟨b, off, none⟩, n, cR, aI, nI, cI, R, I, cy, cx, v1, v2, v3, v4, v5, v6, v7, v8⟩)
  clear hs
  have hs := hs1
  clear hs1
  generalize World.alloc w _ = w1 at hs ⊢
  generalize w.heap.size = zg at hs ⊢
  go_upto_region 27 with (first | ((with_reducible refine isl ?_); first | ((with_reducible apply ldx); exact rfl; exact rfl; exact rfl; (first | exact hs.b0 | exact hs.b1); exact rfl; kernel_rfl) | ((with_reducible apply stx); exact rfl; exact rfl; exact rfl; (first | exact hs.b0 | exact hs.b1); exact rfl; exact rfl; exact rfl; kernel_rfl; exact rfl; clear hs; intro w hs) | ((with_reducible apply stcx); exact rfl; exact rfl; exact rfl; (first | exact hs.b0 | exact hs.b1); exact rfl; exact rfl; kernel_rfl; exact rfl; clear hs; intro w hs) | ((with_reducible refine wrap hs ?_); clear hs; intro w hs) | ((with_reducible refine wrapn hs ?_); clear hs; intro w hs) | ((with_reducible refine wrapd hs ?_); clear hs; intro w hs)))
  go_wp2_with fail
  go_loopw [9, 10] (fun xv iv wr => ∃ k : Nat, k ≤ m ∧ iv = .int .i64 (k : Int) ∧ xv = .int .i64 ((trim (bL.take k) - 1 : Nat) : Int) ∧ sat W (cel zg 34 (gV ⟨some ⟨b, off, none⟩, n, cR, aI, nI, cI, R, I, cy, cx, v1, v2, v3, v4, v5, v6, v7, v8⟩) :: cel a 40 [.int .i64 id, .int .i64 y, .int .i64 x] :: H) wr) (fun _ iv _ => ((m : Int) - intOf iv).toNat)
  case atStart => exact ⟨0, Nat.zero_le _, rfl, rfl, hs⟩
  case round =>
    clear hs
    obtain ⟨k, hk, rfl, rfl, hs⟩ := hrel
    obtain ⟨xk, hxk⟩ : ∃ q, trim (bL.take k) - 1 = q := ⟨_, rfl⟩
    rw [hxk]
    by_cases hlt : k < m
    · obtain ⟨q, hq, b2, o2, e, hcc⟩ := HCS.out.1.getm (f := cmV) hs.drop.drop hlt
      obtain ⟨rfl, rfl⟩ : bq = b2 ∧ oq = o2 := by cases e; exact ⟨rfl, rfl⟩
      have HCC := Lib.hid hcc
      have hkb : k < bL.length := by rw [HBL.out, List.length_map, cl, List.length_map, HLN.out]; exact hlt
      have hbk : bL.take (k + 1) = bL.take k ++ [isB q.c] := by
        rw [List.take_succ_eq_append_getElem hkb]
        congr 2
        have : bL[k]? = some (isB q.c) := by rw [HBL.out, List.getElem?_map, cl, List.getElem?_map, hq]; rfl
        rw [List.getElem?_eq_getElem hkb] at this
        exact Option.some.inj this
      have BL := Lib.hid (fun (w : World) (Hq : List HProp) (hs : sat W Hq w) => blank18 q hs)
      generalize isB q.c = bb at hbk BL
      have hkm : (k : Int) < (m : Int) := by omega
      have hk6 : k ≤ 600 := by omega
      cases bb with
      | true =>
        have HX : Hid (trim (bL.take (k + 1)) - 1 = xk) := Lib.hid (by rw [hbk, trim_snoc, if_pos rfl]; exact hxk)
        clear hcc e hbk hq hkb hxk
        go_upto_region 31 with (first | ((try simp only [Act.put, List.setIfInBounds_toArray, List.set_cons_succ, List.set_cons_zero]); refine region_sat hs (by kernel_rfl) (by kernel_rfl) ?_; intro X f hne hf hcl; (repeat ((first | (apply ldcq; exact rfl; exact rfl; exact rfl; (first | exact fun y => HCR.out _ ((hf y).dropN 0) | exact fun y => HCR.out _ ((hf y).dropN 1) | exact fun y => HCR.out _ ((hf y).dropN 2) | exact fun y => HCR.out _ ((hf y).dropN 3) | exact fun y => HCR.out _ ((hf y).dropN 4) | exact fun y => HCR.out _ ((hf y).dropN 5) | exact fun y => HCR.out _ ((hf y).dropN 6) | exact fun y => HCR.out _ ((hf y).dropN 7)); exact one57) | ((with_reducible apply ldqx); exact rfl; exact rfl; exact rfl; (first | exact fun x => (hf x).b0 | exact fun x => (hf x).b1); exact rfl; kernel_rfl) | go_big_quiet_step (fail)); (try simp only [Act.put, List.setIfInBounds_toArray, List.set_cons_succ, List.set_cons_zero]))); refine wpQuiet_nil ?_; clear hcl hf hne hs f X; intro w hs) | ((with_reducible refine isl ?_); first | ((with_reducible apply ldx); exact rfl; exact rfl; exact rfl; (first | exact hs.b0 | exact hs.b1); exact rfl; kernel_rfl) | ((with_reducible apply stx); exact rfl; exact rfl; exact rfl; (first | exact hs.b0 | exact hs.b1); exact rfl; exact rfl; exact rfl; kernel_rfl; exact rfl; clear hs; intro w hs) | ((with_reducible apply stcx); exact rfl; exact rfl; exact rfl; (first | exact hs.b0 | exact hs.b1); exact rfl; exact rfl; kernel_rfl; exact rfl; clear hs; intro w hs) | ((with_reducible refine wrap hs ?_); clear hs; intro w hs) | ((with_reducible refine wrapn hs ?_); clear hs; intro w hs) | ((with_reducible refine wrapd hs ?_); clear hs; intro w hs)))
        refine region_mix [([0, 1, 2, 3, 4, 5, 6, 7, 8, 9, 10], [11])] [12] hs (fun _ h => h) (by kernel_rfl) (by kernel_rfl) (fun _ _ _ _ _ h => h) ?_
        simp only [segs, nths, nth, List.append_nil, List.nil_append, List.cons_append, List.map_cons, List.map_nil]
        refine seg_reads (fun _ h => h) ?_; intro X f hne hf hcl; (try simp only [Act.put, List.setIfInBounds_toArray, List.set_cons_succ, List.set_cons_zero]); (repeat ((first | (apply ldcq; exact rfl; exact rfl; exact rfl; (first | exact fun y => HCR.out _ ((hf y).dropN 0) | exact fun y => HCR.out _ ((hf y).dropN 1) | exact fun y => HCR.out _ ((hf y).dropN 2) | exact fun y => HCR.out _ ((hf y).dropN 3) | exact fun y => HCR.out _ ((hf y).dropN 4) | exact fun y => HCR.out _ ((hf y).dropN 5) | exact fun y => HCR.out _ ((hf y).dropN 6) | exact fun y => HCR.out _ ((hf y).dropN 7)); exact one57) | ((with_reducible apply ldscq (cs := cmV q)); exact rfl; exact rfl; exact rfl; exact fun y => HCC.out _ ((hf y).dropN 2); exact row36) | ((with_reducible apply ldqx); exact rfl; exact rfl; exact rfl; (first | exact fun x => (hf x).b0 | exact fun x => (hf x).b1); exact rfl; kernel_rfl) | go_big_quiet_step (fail)); (try simp only [Act.put, List.setIfInBounds_toArray, List.set_cons_succ, List.set_cons_zero]))); refine wpQuiet_nil ?_; clear hcl hf hne hs f X; intro w hs
        go_wp2_with (first | (go_at_call 65; refine (BL.out _ _ hs).mono ?_; clear hs; rintro e w ⟨rfl, hs⟩) | ((with_reducible refine isl ?_); first | ((with_reducible refine wrap hs ?_); clear hs; intro w hs) | ((with_reducible refine wrapn hs ?_); clear hs; intro w hs) | ((with_reducible refine wrapd hs ?_); clear hs; intro w hs)))
        (first | (refine seg_on hs (by first | exact fun _ h => h | exact fun _ h => h.drop | exact fun _ h => h.drop.drop | exact fun _ h => h.drop.drop.drop) (fun _ h => h) ?_; clear hs; intro hs) | (refine seg_on hs.made (by first | exact fun _ h => h | exact fun _ h => h.drop | exact fun _ h => h.drop.drop | exact fun _ h => h.drop.drop.drop) (fun _ h => h) ?_; clear hs; intro hs) | (refine seg_on hs.drew (by first | exact fun _ h => h | exact fun _ h => h.drop | exact fun _ h => h.drop.drop | exact fun _ h => h.drop.drop.drop) (fun _ h => h) ?_; clear hs; intro hs) | (refine seg_on hs.drew.made (by first | exact fun _ h => h | exact fun _ h => h.drop | exact fun _ h => h.drop.drop | exact fun _ h => h.drop.drop.drop) (fun _ h => h) ?_; clear hs; intro hs) | (refine seg_on (hs.drewN _) (by first | exact fun _ h => h | exact fun _ h => h.drop | exact fun _ h => h.drop.drop | exact fun _ h => h.drop.drop.drop) (fun _ h => h) ?_; clear hs; intro hs))
        refine seg_last (fun _ h => h) ?_; intro X f hne hf hcl; (try simp only [Act.put, List.setIfInBounds_toArray, List.set_cons_succ, List.set_cons_zero]); (repeat ((first | (apply ldcq; exact rfl; exact rfl; exact rfl; (first | exact fun y => HCR.out _ ((hf y).dropN 0) | exact fun y => HCR.out _ ((hf y).dropN 1) | exact fun y => HCR.out _ ((hf y).dropN 2) | exact fun y => HCR.out _ ((hf y).dropN 3) | exact fun y => HCR.out _ ((hf y).dropN 4) | exact fun y => HCR.out _ ((hf y).dropN 5) | exact fun y => HCR.out _ ((hf y).dropN 6) | exact fun y => HCR.out _ ((hf y).dropN 7)); exact one57) | ((with_reducible apply ldscq (cs := cmV q)); exact rfl; exact rfl; exact rfl; exact fun y => HCC.out _ ((hf y).dropN 2); exact row36) | ((with_reducible apply ldqx); exact rfl; exact rfl; exact rfl; (first | exact fun x => (hf x).b0 | exact fun x => (hf x).b1); exact rfl; kernel_rfl) | go_big_quiet_step (fail)); (try simp only [Act.put, List.setIfInBounds_toArray, List.set_cons_succ, List.set_cons_zero]))); refine wpQuiet_nil ?_; clear hcl hf hne hs f X; intro w hs
        go_wp2_with (first | ((with_reducible refine isl ?_); first | ((with_reducible apply ldx); exact rfl; exact rfl; exact rfl; (first | exact hs.b0 | exact hs.b1); exact rfl; kernel_rfl) | ((with_reducible apply stx); exact rfl; exact rfl; exact rfl; (first | exact hs.b0 | exact hs.b1); exact rfl; exact rfl; exact rfl; kernel_rfl; exact rfl; clear hs; intro w hs) | ((with_reducible apply stcx); exact rfl; exact rfl; exact rfl; (first | exact hs.b0 | exact hs.b1); exact rfl; exact rfl; kernel_rfl; exact rfl; clear hs; intro w hs) | ((with_reducible refine wrap hs ?_); clear hs; intro w hs) | ((with_reducible refine wrapn hs ?_); clear hs; intro w hs) | ((with_reducible refine wrapd hs ?_); clear hs; intro w hs)))
        go_roundw
        case rel => exact ⟨k + 1, hlt, by go_num, by rw [HX.out], by refine sb_from ?_ hs; repeat constructor⟩
        case measure => simp [intOf]; omega
      | false =>
        have HX : Hid (trim (bL.take (k + 1)) - 1 = k) := Lib.hid (by rw [hbk, trim_snoc, if_neg (by decide), List.length_take]; omega)
        clear hcc e hbk hq hkb hxk
        go_upto_region 31 with (first | ((try simp only [Act.put, List.setIfInBounds_toArray, List.set_cons_succ, List.set_cons_zero]); refine region_sat hs (by kernel_rfl) (by kernel_rfl) ?_; intro X f hne hf hcl; (repeat ((first | (apply ldcq; exact rfl; exact rfl; exact rfl; (first | exact fun y => HCR.out _ ((hf y).dropN 0) | exact fun y => HCR.out _ ((hf y).dropN 1) | exact fun y => HCR.out _ ((hf y).dropN 2) | exact fun y => HCR.out _ ((hf y).dropN 3) | exact fun y => HCR.out _ ((hf y).dropN 4) | exact fun y => HCR.out _ ((hf y).dropN 5) | exact fun y => HCR.out _ ((hf y).dropN 6) | exact fun y => HCR.out _ ((hf y).dropN 7)); exact one57) | ((with_reducible apply ldqx); exact rfl; exact rfl; exact rfl; (first | exact fun x => (hf x).b0 | exact fun x => (hf x).b1); exact rfl; kernel_rfl) | go_big_quiet_step (fail)); (try simp only [Act.put, List.setIfInBounds_toArray, List.set_cons_succ, List.set_cons_zero]))); refine wpQuiet_nil ?_; clear hcl hf hne hs f X; intro w hs) | ((with_reducible refine isl ?_); first | ((with_reducible apply ldx); exact rfl; exact rfl; exact rfl; (first | exact hs.b0 | exact hs.b1); exact rfl; kernel_rfl) | ((with_reducible apply stx); exact rfl; exact rfl; exact rfl; (first | exact hs.b0 | exact hs.b1); exact rfl; exact rfl; exact rfl; kernel_rfl; exact rfl; clear hs; intro w hs) | ((with_reducible apply stcx); exact rfl; exact rfl; exact rfl; (first | exact hs.b0 | exact hs.b1); exact rfl; exact rfl; kernel_rfl; exact rfl; clear hs; intro w hs) | ((with_reducible refine wrap hs ?_); clear hs; intro w hs) | ((with_reducible refine wrapn hs ?_); clear hs; intro w hs) | ((with_reducible refine wrapd hs ?_); clear hs; intro w hs)))
        refine region_mix [([0, 1, 2, 3, 4, 5, 6, 7, 8, 9, 10], [11])] [12] hs (fun _ h => h) (by kernel_rfl) (by kernel_rfl) (fun _ _ _ _ _ h => h) ?_
        simp only [segs, nths, nth, List.append_nil, List.nil_append, List.cons_append, List.map_cons, List.map_nil]
        refine seg_reads (fun _ h => h) ?_; intro X f hne hf hcl; (try simp only [Act.put, List.setIfInBounds_toArray, List.set_cons_succ, List.set_cons_zero]); (repeat ((first | (apply ldcq; exact rfl; exact rfl; exact rfl; (first | exact fun y => HCR.out _ ((hf y).dropN 0) | exact fun y => HCR.out _ ((hf y).dropN 1) | exact fun y => HCR.out _ ((hf y).dropN 2) | exact fun y => HCR.out _ ((hf y).dropN 3) | exact fun y => HCR.out _ ((hf y).dropN 4) | exact fun y => HCR.out _ ((hf y).dropN 5) | exact fun y => HCR.out _ ((hf y).dropN 6) | exact fun y => HCR.out _ ((hf y).dropN 7)); exact one57) | ((with_reducible apply ldscq (cs := cmV q)); exact rfl; exact rfl; exact rfl; exact fun y => HCC.out _ ((hf y).dropN 2); exact row36) | ((with_reducible apply ldqx); exact rfl; exact rfl; exact rfl; (first | exact fun x => (hf x).b0 | exact fun x => (hf x).b1); exact rfl; kernel_rfl) | go_big_quiet_step (fail)); (try simp only [Act.put, List.setIfInBounds_toArray, List.set_cons_succ, List.set_cons_zero]))); refine wpQuiet_nil ?_; clear hcl hf hne hs f X; intro w hs
        go_wp2_with (first | (go_at_call 65; refine (BL.out _ _ hs).mono ?_; clear hs; rintro e w ⟨rfl, hs⟩) | ((with_reducible refine isl ?_); first | ((with_reducible refine wrap hs ?_); clear hs; intro w hs) | ((with_reducible refine wrapn hs ?_); clear hs; intro w hs) | ((with_reducible refine wrapd hs ?_); clear hs; intro w hs)))
        (first | (refine seg_on hs (by first | exact fun _ h => h | exact fun _ h => h.drop | exact fun _ h => h.drop.drop | exact fun _ h => h.drop.drop.drop) (fun _ h => h) ?_; clear hs; intro hs) | (refine seg_on hs.made (by first | exact fun _ h => h | exact fun _ h => h.drop | exact fun _ h => h.drop.drop | exact fun _ h => h.drop.drop.drop) (fun _ h => h) ?_; clear hs; intro hs) | (refine seg_on hs.drew (by first | exact fun _ h => h | exact fun _ h => h.drop | exact fun _ h => h.drop.drop | exact fun _ h => h.drop.drop.drop) (fun _ h => h) ?_; clear hs; intro hs) | (refine seg_on hs.drew.made (by first | exact fun _ h => h | exact fun _ h => h.drop | exact fun _ h => h.drop.drop | exact fun _ h => h.drop.drop.drop) (fun _ h => h) ?_; clear hs; intro hs) | (refine seg_on (hs.drewN _) (by first | exact fun _ h => h | exact fun _ h => h.drop | exact fun _ h => h.drop.drop | exact fun _ h => h.drop.drop.drop) (fun _ h => h) ?_; clear hs; intro hs))
        refine seg_last (fun _ h => h) ?_; intro X f hne hf hcl; (try simp only [Act.put, List.setIfInBounds_toArray, List.set_cons_succ, List.set_cons_zero]); (repeat ((first | (apply ldcq; exact rfl; exact rfl; exact rfl; (first | exact fun y => HCR.out _ ((hf y).dropN 0) | exact fun y => HCR.out _ ((hf y).dropN 1) | exact fun y => HCR.out _ ((hf y).dropN 2) | exact fun y => HCR.out _ ((hf y).dropN 3) | exact fun y => HCR.out _ ((hf y).dropN 4) | exact fun y => HCR.out _ ((hf y).dropN 5) | exact fun y => HCR.out _ ((hf y).dropN 6) | exact fun y => HCR.out _ ((hf y).dropN 7)); exact one57) | ((with_reducible apply ldscq (cs := cmV q)); exact rfl; exact rfl; exact rfl; exact fun y => HCC.out _ ((hf y).dropN 2); exact row36) | ((with_reducible apply ldqx); exact rfl; exact rfl; exact rfl; (first | exact fun x => (hf x).b0 | exact fun x => (hf x).b1); exact rfl; kernel_rfl) | go_big_quiet_step (fail)); (try simp only [Act.put, List.setIfInBounds_toArray, List.set_cons_succ, List.set_cons_zero]))); refine wpQuiet_nil ?_; clear hcl hf hne hs f X; intro w hs
        go_wp2_with (first | ((with_reducible refine isl ?_); first | ((with_reducible apply ldx); exact rfl; exact rfl; exact rfl; (first | exact hs.b0 | exact hs.b1); exact rfl; kernel_rfl) | ((with_reducible apply stx); exact rfl; exact rfl; exact rfl; (first | exact hs.b0 | exact hs.b1); exact rfl; exact rfl; exact rfl; kernel_rfl; exact rfl; clear hs; intro w hs) | ((with_reducible apply stcx); exact rfl; exact rfl; exact rfl; (first | exact hs.b0 | exact hs.b1); exact rfl; exact rfl; kernel_rfl; exact rfl; clear hs; intro w hs) | ((with_reducible refine wrap hs ?_); clear hs; intro w hs) | ((with_reducible refine wrapn hs ?_); clear hs; intro w hs) | ((with_reducible refine wrapd hs ?_); clear hs; intro w hs)))
        go_roundw
        case rel => exact ⟨k + 1, hlt, by go_num, by rw [HX.out], by refine sb_from ?_ hs; repeat constructor⟩
        case measure => simp [intOf]; omega
    · obtain rfl : m = k := by omega
      have HP2 : Hid (heldP (Gm.gd ⟨some ⟨b, off, none⟩, n, cR, aI, nI, cI, R, I, cy, cx, v1, v2, v3, v4, v5, v6, v7, v8⟩) y (xk : Int) = (y2, x2)) := Lib.hid (by
        rw [← HP.out, ← HZ.out, ← hxk, List.take_of_length_le (by rw [HBL.out, List.length_map, cl, List.length_map, HLN.out]; exact Nat.le_refl _)]; rfl)
      clear hlt hxk
      go_upto_region 33 with (first | ((try simp only [Act.put, List.setIfInBounds_toArray, List.set_cons_succ, List.set_cons_zero]); refine region_sat hs (by kernel_rfl) (by kernel_rfl) ?_; intro X f hne hf hcl; (repeat ((first | (apply ldcq; exact rfl; exact rfl; exact rfl; (first | exact fun y => HCR.out _ ((hf y).dropN 0) | exact fun y => HCR.out _ ((hf y).dropN 1) | exact fun y => HCR.out _ ((hf y).dropN 2) | exact fun y => HCR.out _ ((hf y).dropN 3) | exact fun y => HCR.out _ ((hf y).dropN 4) | exact fun y => HCR.out _ ((hf y).dropN 5) | exact fun y => HCR.out _ ((hf y).dropN 6) | exact fun y => HCR.out _ ((hf y).dropN 7)); exact one57) | ((with_reducible apply ldqx); exact rfl; exact rfl; exact rfl; (first | exact fun x => (hf x).b0 | exact fun x => (hf x).b1); exact rfl; kernel_rfl) | go_big_quiet_step (fail)); (try simp only [Act.put, List.setIfInBounds_toArray, List.set_cons_succ, List.set_cons_zero]))); refine wpQuiet_nil ?_; clear hcl hf hne hs f X; intro w hs) | ((with_reducible refine isl ?_); first | ((with_reducible apply ldx); exact rfl; exact rfl; exact rfl; (first | exact hs.b0 | exact hs.b1); exact rfl; kernel_rfl) | ((with_reducible apply stx); exact rfl; exact rfl; exact rfl; (first | exact hs.b0 | exact hs.b1); exact rfl; exact rfl; exact rfl; kernel_rfl; exact rfl; clear hs; intro w hs) | ((with_reducible apply stcx); exact rfl; exact rfl; exact rfl; (first | exact hs.b0 | exact hs.b1); exact rfl; exact rfl; kernel_rfl; exact rfl; clear hs; intro w hs) | ((with_reducible refine wrap hs ?_); clear hs; intro w hs) | ((with_reducible refine wrapn hs ?_); clear hs; intro w hs) | ((with_reducible refine wrapd hs ?_); clear hs; intro w hs)))
      ((try simp only [Act.put, List.setIfInBounds_toArray, List.set_cons_succ, List.set_cons_zero]); refine region_tail 7 hs (by kernel_rfl) (by kernel_rfl) ?_; simp only [List.take_succ_cons, List.take_zero, List.drop_succ_cons, List.drop_zero]; clear hs; intro w hs; (repeat ((first | (first | (apply ldst 12 hs.b0; exact rfl; exact rfl; exact rfl; exact row34; exact rfl; exact rfl) | (apply ldst 12 hs.b1; exact rfl; exact rfl; exact rfl; exact row34; exact rfl; exact rfl) | (apply ldst 12 hs.b2; exact rfl; exact rfl; exact rfl; exact row34; exact rfl; exact rfl)) | ((with_reducible apply ldt hs.b0); exact rfl; exact rfl; exact rfl; exact rfl; kernel_rfl) | ((with_reducible apply ldt hs.b1); exact rfl; exact rfl; exact rfl; exact rfl; kernel_rfl) | go_big_quiet_step (fail)); (try simp only [Act.put, List.setIfInBounds_toArray, List.set_cons_succ, List.set_cons_zero]))); refine wpQuiet_nil ?_)
      go_wp2_with (first | (go_at_call 25; first | (refine (put25 (g := ⟨some ⟨b, off, none⟩, n, cR, aI, nI, cI, R, I, cy, cx, v1, v2, v3, v4, v5, v6, v7, v8⟩) (py := y) (px := xk) hs.b0 (by (repeat first | exact HG.out | apply GS.more)) HF.out HP2.out).mono ?_; clear hs; rintro e w ⟨rfl, hs⟩) | (refine (put25 (g := ⟨some ⟨b, off, none⟩, n, cR, aI, nI, cI, R, I, cy, cx, v1, v2, v3, v4, v5, v6, v7, v8⟩) (py := y) (px := xk) hs.b1 (by (repeat first | exact HG.out | apply GS.more)) HF.out HP2.out).mono ?_; clear hs; rintro e w ⟨rfl, hs⟩) | (refine (put25 (g := ⟨some ⟨b, off, none⟩, n, cR, aI, nI, cI, R, I, cy, cx, v1, v2, v3, v4, v5, v6, v7, v8⟩) (py := y) (px := xk) hs.b2 (by (repeat first | exact HG.out | apply GS.more)) HF.out HP2.out).mono ?_; clear hs; rintro e w ⟨rfl, hs⟩)) | ((with_reducible refine isl ?_); first | ((with_reducible apply ldx); exact rfl; exact rfl; exact rfl; (first | exact hs.b0 | exact hs.b1); exact rfl; kernel_rfl) | ((with_reducible apply stx); exact rfl; exact rfl; exact rfl; (first | exact hs.b0 | exact hs.b1); exact rfl; exact rfl; exact rfl; kernel_rfl; exact rfl; clear hs; intro w hs) | ((with_reducible apply stcx); exact rfl; exact rfl; exact rfl; (first | exact hs.b0 | exact hs.b1); exact rfl; exact rfl; kernel_rfl; exact rfl; clear hs; intro w hs) | ((with_reducible refine wrap hs ?_); clear hs; intro w hs) | ((with_reducible refine wrapn hs ?_); clear hs; intro w hs) | ((with_reducible refine wrapd hs ?_); clear hs; intro w hs)))
      go_ret
      exact ⟨rfl, by refine sb_from ?_ hs; repeat constructor⟩
theorem step_any {a y x : Nat} {id : Int} {e2 : Bool} {y2 x2 : Nat} (hs : sat W (cel a 40 [.int .i64 id, .int .i64 y, .int .i64 x] :: H) w) (hg : GS W H g) (hF : Fit g.gd n m) (hy : y < n) (hx : x < m) (hid : g.gd.id y = id) {c : Nat} (hc : 1 ≤ c ∧ c ≤ 14) (ho : aft y x (goTo g.gd y x c) = (y2, x2, e2)) :
    Calls Try.prog 42 #[.pointer (some ⟨a, 0, none⟩), .agg (gV g).toArray, .int .u8 c] w fun e' w' => e' = .returned (.bool (!e2)) ∧ sat W (cel a 40 [.int .i64 (g.gd.id y2), .int .i64 y2, .int .i64 x2] :: H) w' := by
  have : c = 1 ∨ c = 2 ∨ c = 3 ∨ c = 4 ∨ c = 5 ∨ c = 6 ∨ c = 7 ∨ c = 8 ∨ c = 9 ∨ c = 10 ∨ c = 11 ∨ c = 12 ∨ c = 13 ∨ c = 14 := by omega
  rcases this with rfl | rfl | rfl | rfl | rfl | rfl | rfl | rfl | rfl | rfl | rfl | rfl | rfl | rfl
  · exact step42_1 hs hg hF hy hx hid ho
  · exact step42_2 hs hg hF hy hx hid ho
  · exact step42_3 hs hg hF hy hx hid ho
  · exact step42_4 hs hg hF hy hx hid ho
  · exact step42_5 hs hg hF hy hx hid ho
  · exact step42_6 hs hg hF hy hx hid ho
  · exact step42_7 hs hg hF hy hx hid ho
  · exact step42_8 hs hg hF hy hx hid ho
  · exact step42_9 hs hg hF hy hx hid ho
  · exact step42_10 hs hg hF hy hx hid ho
  · exact step42_11 hs hg hF hy hx hid ho
  · exact step42_12 hs hg hF hy hx hid ho
  · exact step42_13 hs hg hF hy hx hid ho
  · exact step42_14 hs hg hF hy hx hid ho
end Go.Proofs.Ytcheljogpffabaa
