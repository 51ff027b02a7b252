/- Law 21: the commands but for the words. -/
import Derived.Test.YtcheljogpffabaaSf
import Derived.Test.YtcheljogpffabaaR4
namespace Go.Proofs.Ytcheljogpffabaa
open Go.RowKit Go.Mem Go.Words Go.Deep Go.Rev
variable {W w : World} {H : List HProp} {g : Gm} {n m : Nat}
attribute [local irreducible] rowTy oneTy World.setCell World.setCells World.alloc World.drew World.drewN Calls sat cel own blk old wpQuiet wpList tx
set_option maxHeartbeats 2000000 in
set_option maxRecDepth 20000 in
theorem cmd26 {a y x : Nat} {e2 : Bool} {y2 x2 : Nat} (hs : sat W (cel a 78 (akL g y x false 0) :: H) w) (hg : GS W H g) (hF : Fit g.gd n m) (hy : y < n) (hx : x < m) (ho : aft y x (goTo g.gd y x 1) = (y2, x2, e2)) :
    Calls Try.prog 26 #[.pointer (some ⟨a, 0, none⟩)] w fun e' w' => e' = .returned (.tuple #[]) ∧ sat W (cel a 78 (akL g y2 x2 e2 0) :: H) w' := by
  by_cases h0 : x = 0
  · skip
    have he : (y, x, true) = (y2, x2, e2) := by rw [← ho]; simp [goTo, aft, h0]
    cases he
    clear ho
    have hn := (hg.n_eq hF).1
    have h1 := hF.n1
    have h2 := hF.n12
    have h3 := hF.m1
    have h4 := hF.m600
    obtain ⟨b, off, b0, o0, c0, _, eb, hc0, _⟩ := hg.at_ hF hs.drop (y := 0) (by omega)
    have HC0 := Lib.hid hc0
    have HG := Lib.hid hg
    have HF := Lib.hid hF
    clear hc0 hg hF
    obtain ⟨aR, n', cR, aI, nI, cI, R, I, cy, cx, v1, v2, v3, v4, v5, v6, v7, v8⟩ := g
    obtain rfl : n = n' := hn.symm
    obtain rfl : aR = _ := eb
    have hy9 : (y : Int) < (n : Int) := by omega
    have hx9 : (x : Int) < (m : Int) := by omega
    clear hy hx
    have hx0 : decide (0 < x) = false := decide_eq_false (by omega)
    clear h0
    go_enter Try.func26, Try.ntmps26
    ((try simp only [Act.put, List.setIfInBounds_toArray, List.set_cons_succ, List.set_cons_zero]); refine region_tail 19 hs (by kernel_rfl) (by kernel_rfl) ?_; simp only [List.take_succ_cons, List.take_zero, List.drop_succ_cons, List.drop_zero]; clear hs; intro w hs; (repeat ((first | ((with_reducible apply ldt hs.b0); exact rfl; exact rfl; exact rfl; exact rfl; kernel_rfl) | go_big_quiet_step (fail)); (try simp only [Act.put, List.setIfInBounds_toArray, List.set_cons_succ, List.set_cons_zero]))); refine wpQuiet_nil ?_)
    go_wp2_with (first | (go_at_call 52; refine (to52_no (g := ⟨some ⟨b, off, none⟩, n, cR, aI, nI, cI, R, I, cy, cx, v1, v2, v3, v4, v5, v6, v7, v8⟩) (py := y) (px := (x : Int) - 1) hs).mono ?_; clear hs; rintro e w ⟨rfl, hs⟩) | ((with_reducible refine isl ?_); first | ((with_reducible apply ldx); exact rfl; exact rfl; exact rfl; exact hs.b0; exact rfl; kernel_rfl) | ((with_reducible apply stx); exact rfl; exact rfl; exact rfl; exact hs.b0; exact rfl; exact rfl; exact rfl; kernel_rfl; exact rfl; clear hs; intro w hs) | ((with_reducible apply stcx); exact rfl; exact rfl; exact rfl; exact hs.b0; exact rfl; exact rfl; kernel_rfl; exact rfl; clear hs; intro w hs) | ((with_reducible refine wrap hs ?_); clear hs; intro w hs) | ((with_reducible refine wrapn hs ?_); clear hs; intro w hs) | ((with_reducible refine wrapd hs ?_); clear hs; intro w hs)))
    refine end_end0 rfl rfl ?_
    exact ⟨rfl, by refine sb_from ?_ hs; repeat constructor⟩
  · skip
    obtain ⟨⟨p1, p2⟩, hp⟩ : ∃ p, heldP g.gd (y : Int) ((x : Int) - 1) = p := ⟨_, rfl⟩
    have he : (p1, p2, false) = (y2, x2, e2) := by rw [← ho]; simp [goTo, aft, hp, h0]
    cases he
    have HP := Lib.hid hp
    clear hp ho
    have hn := (hg.n_eq hF).1
    have h1 := hF.n1
    have h2 := hF.n12
    have h3 := hF.m1
    have h4 := hF.m600
    obtain ⟨b, off, b0, o0, c0, _, eb, hc0, _⟩ := hg.at_ hF hs.drop (y := 0) (by omega)
    have HC0 := Lib.hid hc0
    have HG := Lib.hid hg
    have HF := Lib.hid hF
    clear hc0 hg hF
    obtain ⟨aR, n', cR, aI, nI, cI, R, I, cy, cx, v1, v2, v3, v4, v5, v6, v7, v8⟩ := g
    obtain rfl : n = n' := hn.symm
    obtain rfl : aR = _ := eb
    have hy9 : (y : Int) < (n : Int) := by omega
    have hx9 : (x : Int) < (m : Int) := by omega
    clear hy hx
    have hx0 : decide (0 < x) = true := decide_eq_true (by omega)
    clear h0
    go_enter Try.func26, Try.ntmps26
    ((try simp only [Act.put, List.setIfInBounds_toArray, List.set_cons_succ, List.set_cons_zero]); refine region_tail 19 hs (by kernel_rfl) (by kernel_rfl) ?_; simp only [List.take_succ_cons, List.take_zero, List.drop_succ_cons, List.drop_zero]; clear hs; intro w hs; (repeat ((first | ((with_reducible apply ldt hs.b0); exact rfl; exact rfl; exact rfl; exact rfl; kernel_rfl) | go_big_quiet_step (fail)); (try simp only [Act.put, List.setIfInBounds_toArray, List.set_cons_succ, List.set_cons_zero]))); refine wpQuiet_nil ?_)
    go_wp2_with (first | (go_at_call 52; refine (to52_yes (g := ⟨some ⟨b, off, none⟩, n, cR, aI, nI, cI, R, I, cy, cx, v1, v2, v3, v4, v5, v6, v7, v8⟩) (py := y) (px := (x : Int) - 1) hs (by (repeat first | exact HG.out | apply GS.more)) HF.out HP.out).mono ?_; clear hs; rintro e w ⟨rfl, hs⟩) | ((with_reducible refine isl ?_); first | ((with_reducible apply ldx); exact rfl; exact rfl; exact rfl; exact hs.b0; exact rfl; kernel_rfl) | ((with_reducible apply stx); exact rfl; exact rfl; exact rfl; exact hs.b0; exact rfl; exact rfl; exact rfl; kernel_rfl; exact rfl; clear hs; intro w hs) | ((with_reducible apply stcx); exact rfl; exact rfl; exact rfl; exact hs.b0; exact rfl; exact rfl; kernel_rfl; exact rfl; clear hs; intro w hs) | ((with_reducible refine wrap hs ?_); clear hs; intro w hs) | ((with_reducible refine wrapn hs ?_); clear hs; intro w hs) | ((with_reducible refine wrapd hs ?_); clear hs; intro w hs)))
    refine end_end0 rfl rfl ?_
    exact ⟨rfl, by refine sb_from ?_ hs; repeat constructor⟩

set_option maxHeartbeats 2000000 in
set_option maxRecDepth 20000 in
theorem cmd28 {a y x : Nat} {e2 : Bool} {y2 x2 : Nat} (hs : sat W (cel a 78 (akL g y x false 0) :: H) w) (hg : GS W H g) (hF : Fit g.gd n m) (hy : y < n) (hx : x < m) (ho : aft y x (goTo g.gd y x 3) = (y2, x2, e2)) :
    Calls Try.prog 28 #[.pointer (some ⟨a, 0, none⟩)] w fun e' w' => e' = .returned (.tuple #[]) ∧ sat W (cel a 78 (akL g y2 x2 e2 2) :: H) w' := by
  by_cases h0 : y = 0
  · skip
    have he : (y, x, true) = (y2, x2, e2) := by rw [← ho]; simp [goTo, aft, h0]
    cases he
    clear ho
    have hn := (hg.n_eq hF).1
    have h1 := hF.n1
    have h2 := hF.n12
    have h3 := hF.m1
    have h4 := hF.m600
    obtain ⟨b, off, b0, o0, c0, _, eb, hc0, _⟩ := hg.at_ hF hs.drop (y := 0) (by omega)
    have HC0 := Lib.hid hc0
    have HG := Lib.hid hg
    have HF := Lib.hid hF
    clear hc0 hg hF
    obtain ⟨aR, n', cR, aI, nI, cI, R, I, cy, cx, v1, v2, v3, v4, v5, v6, v7, v8⟩ := g
    obtain rfl : n = n' := hn.symm
    obtain rfl : aR = _ := eb
    have hy9 : (y : Int) < (n : Int) := by omega
    have hx9 : (x : Int) < (m : Int) := by omega
    clear hy hx
    have hx0 : decide (0 < y) = false := decide_eq_false (by omega)
    clear h0
    go_enter Try.func28, Try.ntmps28
    go_upto_region 1 with (first | ((with_reducible refine isl ?_); first | ((with_reducible apply ldx); exact rfl; exact rfl; exact rfl; exact hs.b0; exact rfl; kernel_rfl) | ((with_reducible apply stx); exact rfl; exact rfl; exact rfl; exact hs.b0; exact rfl; exact rfl; exact rfl; kernel_rfl; exact rfl; clear hs; intro w hs) | ((with_reducible apply stcx); exact rfl; exact rfl; exact rfl; exact hs.b0; exact rfl; exact rfl; kernel_rfl; exact rfl; clear hs; intro w hs) | ((with_reducible refine wrap hs ?_); clear hs; intro w hs) | ((with_reducible refine wrapn hs ?_); clear hs; intro w hs) | ((with_reducible refine wrapd hs ?_); clear hs; intro w hs)))
    ((try simp only [Act.put, List.setIfInBounds_toArray, List.set_cons_succ, List.set_cons_zero]); refine region_tail 19 hs (by kernel_rfl) (by kernel_rfl) ?_; simp only [List.take_succ_cons, List.take_zero, List.drop_succ_cons, List.drop_zero]; clear hs; intro w hs; (repeat ((first | ((with_reducible apply ldt hs.b0); exact rfl; exact rfl; exact rfl; exact rfl; kernel_rfl) | go_big_quiet_step (fail)); (try simp only [Act.put, List.setIfInBounds_toArray, List.set_cons_succ, List.set_cons_zero]))); refine wpQuiet_nil ?_)
    go_wp2_with (first | (go_at_call 52; refine (to52_no (g := ⟨some ⟨b, off, none⟩, n, cR, aI, nI, cI, R, I, cy, cx, v1, v2, v3, v4, v5, v6, v7, v8⟩) (py := (y : Int) - 1) (px := x) hs).mono ?_; clear hs; rintro e w ⟨rfl, hs⟩) | ((with_reducible refine isl ?_); first | ((with_reducible apply ldx); exact rfl; exact rfl; exact rfl; exact hs.b0; exact rfl; kernel_rfl) | ((with_reducible apply stx); exact rfl; exact rfl; exact rfl; exact hs.b0; exact rfl; exact rfl; exact rfl; kernel_rfl; exact rfl; clear hs; intro w hs) | ((with_reducible apply stcx); exact rfl; exact rfl; exact rfl; exact hs.b0; exact rfl; exact rfl; kernel_rfl; exact rfl; clear hs; intro w hs) | ((with_reducible refine wrap hs ?_); clear hs; intro w hs) | ((with_reducible refine wrapn hs ?_); clear hs; intro w hs) | ((with_reducible refine wrapd hs ?_); clear hs; intro w hs)))
    refine end_end0 rfl rfl ?_
    exact ⟨rfl, by refine sb_from ?_ hs; repeat constructor⟩
  · skip
    obtain ⟨⟨p1, p2⟩, hp⟩ : ∃ p, heldP g.gd ((y : Int) - 1) (x : Int) = p := ⟨_, rfl⟩
    have he : (p1, p2, false) = (y2, x2, e2) := by rw [← ho]; simp [goTo, aft, hp, h0]
    cases he
    have HP := Lib.hid hp
    clear hp ho
    have hn := (hg.n_eq hF).1
    have h1 := hF.n1
    have h2 := hF.n12
    have h3 := hF.m1
    have h4 := hF.m600
    obtain ⟨b, off, b0, o0, c0, _, eb, hc0, _⟩ := hg.at_ hF hs.drop (y := 0) (by omega)
    have HC0 := Lib.hid hc0
    have HG := Lib.hid hg
    have HF := Lib.hid hF
    clear hc0 hg hF
    obtain ⟨aR, n', cR, aI, nI, cI, R, I, cy, cx, v1, v2, v3, v4, v5, v6, v7, v8⟩ := g
    obtain rfl : n = n' := hn.symm
    obtain rfl : aR = _ := eb
    have hy9 : (y : Int) < (n : Int) := by omega
    have hx9 : (x : Int) < (m : Int) := by omega
    clear hy hx
    have hx0 : decide (0 < y) = true := decide_eq_true (by omega)
    clear h0
    go_enter Try.func28, Try.ntmps28
    go_upto_region 1 with (first | ((with_reducible refine isl ?_); first | ((with_reducible apply ldx); exact rfl; exact rfl; exact rfl; exact hs.b0; exact rfl; kernel_rfl) | ((with_reducible apply stx); exact rfl; exact rfl; exact rfl; exact hs.b0; exact rfl; exact rfl; exact rfl; kernel_rfl; exact rfl; clear hs; intro w hs) | ((with_reducible apply stcx); exact rfl; exact rfl; exact rfl; exact hs.b0; exact rfl; exact rfl; kernel_rfl; exact rfl; clear hs; intro w hs) | ((with_reducible refine wrap hs ?_); clear hs; intro w hs) | ((with_reducible refine wrapn hs ?_); clear hs; intro w hs) | ((with_reducible refine wrapd hs ?_); clear hs; intro w hs)))
    ((try simp only [Act.put, List.setIfInBounds_toArray, List.set_cons_succ, List.set_cons_zero]); refine region_tail 19 hs (by kernel_rfl) (by kernel_rfl) ?_; simp only [List.take_succ_cons, List.take_zero, List.drop_succ_cons, List.drop_zero]; clear hs; intro w hs; (repeat ((first | ((with_reducible apply ldt hs.b0); exact rfl; exact rfl; exact rfl; exact rfl; kernel_rfl) | go_big_quiet_step (fail)); (try simp only [Act.put, List.setIfInBounds_toArray, List.set_cons_succ, List.set_cons_zero]))); refine wpQuiet_nil ?_)
    go_wp2_with (first | (go_at_call 52; refine (to52_yes (g := ⟨some ⟨b, off, none⟩, n, cR, aI, nI, cI, R, I, cy, cx, v1, v2, v3, v4, v5, v6, v7, v8⟩) (py := (y : Int) - 1) (px := x) hs (by (repeat first | exact HG.out | apply GS.more)) HF.out HP.out).mono ?_; clear hs; rintro e w ⟨rfl, hs⟩) | ((with_reducible refine isl ?_); first | ((with_reducible apply ldx); exact rfl; exact rfl; exact rfl; exact hs.b0; exact rfl; kernel_rfl) | ((with_reducible apply stx); exact rfl; exact rfl; exact rfl; exact hs.b0; exact rfl; exact rfl; exact rfl; kernel_rfl; exact rfl; clear hs; intro w hs) | ((with_reducible apply stcx); exact rfl; exact rfl; exact rfl; exact hs.b0; exact rfl; exact rfl; kernel_rfl; exact rfl; clear hs; intro w hs) | ((with_reducible refine wrap hs ?_); clear hs; intro w hs) | ((with_reducible refine wrapn hs ?_); clear hs; intro w hs) | ((with_reducible refine wrapd hs ?_); clear hs; intro w hs)))
    refine end_end0 rfl rfl ?_
    exact ⟨rfl, by refine sb_from ?_ hs; repeat constructor⟩

set_option maxHeartbeats 2000000 in
set_option maxRecDepth 20000 in
theorem cmd29 {a y x : Nat} {e2 : Bool} {y2 x2 : Nat} (hs : sat W (cel a 78 (akL g y x false 0) :: H) w) (hg : GS W H g) (hF : Fit g.gd n m) (hy : y < n) (hx : x < m) (ho : aft y x (goTo g.gd y x 4) = (y2, x2, e2)) :
    Calls Try.prog 29 #[.pointer (some ⟨a, 0, none⟩)] w fun e' w' => e' = .returned (.tuple #[]) ∧ sat W (cel a 78 (akL g y2 x2 e2 2) :: H) w' := by
  by_cases h0 : ¬ y + 1 < n
  · skip
    have he : (y, x, true) = (y2, x2, e2) := by rw [← ho]; simp [goTo, aft, hF.gn, h0]
    cases he
    clear ho
    have hn := (hg.n_eq hF).1
    have h1 := hF.n1
    have h2 := hF.n12
    have h3 := hF.m1
    have h4 := hF.m600
    obtain ⟨b, off, b0, o0, c0, _, eb, hc0, _⟩ := hg.at_ hF hs.drop (y := 0) (by omega)
    have HC0 := Lib.hid hc0
    have HG := Lib.hid hg
    have HF := Lib.hid hF
    clear hc0 hg hF
    obtain ⟨aR, n', cR, aI, nI, cI, R, I, cy, cx, v1, v2, v3, v4, v5, v6, v7, v8⟩ := g
    obtain rfl : n = n' := hn.symm
    obtain rfl : aR = _ := eb
    have hy9 : (y : Int) < (n : Int) := by omega
    have hx9 : (x : Int) < (m : Int) := by omega
    clear hy hx
    have hx0 : decide ((y : Int) + 1 < (n : Int)) = false := decide_eq_false (by omega)
    clear h0
    go_enter Try.func29, Try.ntmps29
    go_upto_region 1 with (first | ((with_reducible refine isl ?_); first | ((with_reducible apply ldx); exact rfl; exact rfl; exact rfl; exact hs.b0; exact rfl; kernel_rfl) | ((with_reducible apply stx); exact rfl; exact rfl; exact rfl; exact hs.b0; exact rfl; exact rfl; exact rfl; kernel_rfl; exact rfl; clear hs; intro w hs) | ((with_reducible apply stcx); exact rfl; exact rfl; exact rfl; exact hs.b0; exact rfl; exact rfl; kernel_rfl; exact rfl; clear hs; intro w hs) | ((with_reducible refine wrap hs ?_); clear hs; intro w hs) | ((with_reducible refine wrapn hs ?_); clear hs; intro w hs) | ((with_reducible refine wrapd hs ?_); clear hs; intro w hs)))
    ((try simp only [Act.put, List.setIfInBounds_toArray, List.set_cons_succ, List.set_cons_zero]); refine region_tail 26 hs (by kernel_rfl) (by kernel_rfl) ?_; simp only [List.take_succ_cons, List.take_zero, List.drop_succ_cons, List.drop_zero]; clear hs; intro w hs; (repeat ((first | ((with_reducible apply ldt hs.b0); exact rfl; exact rfl; exact rfl; exact rfl; kernel_rfl) | go_big_quiet_step (fail)); (try simp only [Act.put, List.setIfInBounds_toArray, List.set_cons_succ, List.set_cons_zero]))); refine wpQuiet_nil ?_)
    go_wp2_with (first | (go_at_call 52; refine (to52_no (g := ⟨some ⟨b, off, none⟩, n, cR, aI, nI, cI, R, I, cy, cx, v1, v2, v3, v4, v5, v6, v7, v8⟩) (py := (y : Int) + 1) (px := x) hs).mono ?_; clear hs; rintro e w ⟨rfl, hs⟩) | ((with_reducible refine isl ?_); first | ((with_reducible apply ldx); exact rfl; exact rfl; exact rfl; exact hs.b0; exact rfl; kernel_rfl) | ((with_reducible apply stx); exact rfl; exact rfl; exact rfl; exact hs.b0; exact rfl; exact rfl; exact rfl; kernel_rfl; exact rfl; clear hs; intro w hs) | ((with_reducible apply stcx); exact rfl; exact rfl; exact rfl; exact hs.b0; exact rfl; exact rfl; kernel_rfl; exact rfl; clear hs; intro w hs) | ((with_reducible refine wrap hs ?_); clear hs; intro w hs) | ((with_reducible refine wrapn hs ?_); clear hs; intro w hs) | ((with_reducible refine wrapd hs ?_); clear hs; intro w hs)))
    refine end_end0 rfl rfl ?_
    exact ⟨rfl, by refine sb_from ?_ hs; repeat constructor⟩
  · skip
    obtain ⟨⟨p1, p2⟩, hp⟩ : ∃ p, heldP g.gd ((y : Int) + 1) (x : Int) = p := ⟨_, rfl⟩
    have he : (p1, p2, false) = (y2, x2, e2) := by rw [← ho]; simp [goTo, aft, hp, hF.gn, Decidable.not_not.1 h0]
    cases he
    have HP := Lib.hid hp
    clear hp ho
    have hn := (hg.n_eq hF).1
    have h1 := hF.n1
    have h2 := hF.n12
    have h3 := hF.m1
    have h4 := hF.m600
    obtain ⟨b, off, b0, o0, c0, _, eb, hc0, _⟩ := hg.at_ hF hs.drop (y := 0) (by omega)
    have HC0 := Lib.hid hc0
    have HG := Lib.hid hg
    have HF := Lib.hid hF
    clear hc0 hg hF
    obtain ⟨aR, n', cR, aI, nI, cI, R, I, cy, cx, v1, v2, v3, v4, v5, v6, v7, v8⟩ := g
    obtain rfl : n = n' := hn.symm
    obtain rfl : aR = _ := eb
    have hy9 : (y : Int) < (n : Int) := by omega
    have hx9 : (x : Int) < (m : Int) := by omega
    clear hy hx
    have hx0 : decide ((y : Int) + 1 < (n : Int)) = true := decide_eq_true (by omega)
    clear h0
    go_enter Try.func29, Try.ntmps29
    go_upto_region 1 with (first | ((with_reducible refine isl ?_); first | ((with_reducible apply ldx); exact rfl; exact rfl; exact rfl; exact hs.b0; exact rfl; kernel_rfl) | ((with_reducible apply stx); exact rfl; exact rfl; exact rfl; exact hs.b0; exact rfl; exact rfl; exact rfl; kernel_rfl; exact rfl; clear hs; intro w hs) | ((with_reducible apply stcx); exact rfl; exact rfl; exact rfl; exact hs.b0; exact rfl; exact rfl; kernel_rfl; exact rfl; clear hs; intro w hs) | ((with_reducible refine wrap hs ?_); clear hs; intro w hs) | ((with_reducible refine wrapn hs ?_); clear hs; intro w hs) | ((with_reducible refine wrapd hs ?_); clear hs; intro w hs)))
    ((try simp only [Act.put, List.setIfInBounds_toArray, List.set_cons_succ, List.set_cons_zero]); refine region_tail 26 hs (by kernel_rfl) (by kernel_rfl) ?_; simp only [List.take_succ_cons, List.take_zero, List.drop_succ_cons, List.drop_zero]; clear hs; intro w hs; (repeat ((first | ((with_reducible apply ldt hs.b0); exact rfl; exact rfl; exact rfl; exact rfl; kernel_rfl) | go_big_quiet_step (fail)); (try simp only [Act.put, List.setIfInBounds_toArray, List.set_cons_succ, List.set_cons_zero]))); refine wpQuiet_nil ?_)
    go_wp2_with (first | (go_at_call 52; refine (to52_yes (g := ⟨some ⟨b, off, none⟩, n, cR, aI, nI, cI, R, I, cy, cx, v1, v2, v3, v4, v5, v6, v7, v8⟩) (py := (y : Int) + 1) (px := x) hs (by (repeat first | exact HG.out | apply GS.more)) HF.out HP.out).mono ?_; clear hs; rintro e w ⟨rfl, hs⟩) | ((with_reducible refine isl ?_); first | ((with_reducible apply ldx); exact rfl; exact rfl; exact rfl; exact hs.b0; exact rfl; kernel_rfl) | ((with_reducible apply stx); exact rfl; exact rfl; exact rfl; exact hs.b0; exact rfl; exact rfl; exact rfl; kernel_rfl; exact rfl; clear hs; intro w hs) | ((with_reducible apply stcx); exact rfl; exact rfl; exact rfl; exact hs.b0; exact rfl; exact rfl; kernel_rfl; exact rfl; clear hs; intro w hs) | ((with_reducible refine wrap hs ?_); clear hs; intro w hs) | ((with_reducible refine wrapn hs ?_); clear hs; intro w hs) | ((with_reducible refine wrapd hs ?_); clear hs; intro w hs)))
    refine end_end0 rfl rfl ?_
    exact ⟨rfl, by refine sb_from ?_ hs; repeat constructor⟩

set_option maxHeartbeats 2000000 in
set_option maxRecDepth 20000 in
theorem cmd32 {a y x : Nat} {e2 : Bool} {y2 x2 : Nat} (hs : sat W (cel a 78 (akL g y x false 0) :: H) w) (hg : GS W H g) (hF : Fit g.gd n m) (hy : y < n) (hx : x < m) (ho : aft y x (goTo g.gd y x 7) = (y2, x2, e2)) :
    Calls Try.prog 32 #[.pointer (some ⟨a, 0, none⟩)] w fun e' w' => e' = .returned (.tuple #[]) ∧ sat W (cel a 78 (akL g y2 x2 e2 0) :: H) w' := by
  obtain ⟨⟨p1, p2⟩, hp⟩ : ∃ p, heldP g.gd (y : Int) 0 = p := ⟨_, rfl⟩
  have he : (p1, p2, false) = (y2, x2, e2) := by rw [← ho]; simp [goTo, aft, hp, hF.gn]
  cases he
  have HP := Lib.hid hp
  clear hp ho
  have hn := (hg.n_eq hF).1
  have h1 := hF.n1
  have h2 := hF.n12
  have h3 := hF.m1
  have h4 := hF.m600
  obtain ⟨b, off, b0, o0, c0, _, eb, hc0, _⟩ := hg.at_ hF hs.drop (y := 0) (by omega)
  have HC0 := Lib.hid hc0
  have HG := Lib.hid hg
  have HF := Lib.hid hF
  clear hc0 hg hF
  obtain ⟨aR, n', cR, aI, nI, cI, R, I, cy, cx, v1, v2, v3, v4, v5, v6, v7, v8⟩ := g
  obtain rfl : n = n' := hn.symm
  obtain rfl : aR = _ := eb
  have hy9 : (y : Int) < (n : Int) := by omega
  have hx9 : (x : Int) < (m : Int) := by omega
  clear hy hx
  go_enter Try.func32, Try.ntmps32
  go_wp2_with (first | (go_at_call 52; refine (to52_yes (g := ⟨some ⟨b, off, none⟩, n, cR, aI, nI, cI, R, I, cy, cx, v1, v2, v3, v4, v5, v6, v7, v8⟩) (py := y) (px := 0) hs (by (repeat first | exact HG.out | apply GS.more)) HF.out HP.out).mono ?_; clear hs; rintro e w ⟨rfl, hs⟩) | ((with_reducible refine isl ?_); first | ((with_reducible apply ldx); exact rfl; exact rfl; exact rfl; exact hs.b0; exact rfl; kernel_rfl) | ((with_reducible apply stx); exact rfl; exact rfl; exact rfl; exact hs.b0; exact rfl; exact rfl; exact rfl; kernel_rfl; exact rfl; clear hs; intro w hs) | ((with_reducible apply stcx); exact rfl; exact rfl; exact rfl; exact hs.b0; exact rfl; exact rfl; kernel_rfl; exact rfl; clear hs; intro w hs) | ((with_reducible refine wrap hs ?_); clear hs; intro w hs) | ((with_reducible refine wrapn hs ?_); clear hs; intro w hs) | ((with_reducible refine wrapd hs ?_); clear hs; intro w hs)))
  refine end_end0 rfl rfl ?_
  exact ⟨rfl, by refine sb_from ?_ hs; repeat constructor⟩

set_option maxHeartbeats 2000000 in
set_option maxRecDepth 20000 in
theorem cmd34 {a y x : Nat} {e2 : Bool} {y2 x2 : Nat} (hs : sat W (cel a 78 (akL g y x false 0) :: H) w) (hg : GS W H g) (hF : Fit g.gd n m) (hy : y < n) (hx : x < m) (ho : aft y x (goTo g.gd y x 9) = (y2, x2, e2)) :
    Calls Try.prog 34 #[.pointer (some ⟨a, 0, none⟩)] w fun e' w' => e' = .returned (.tuple #[]) ∧ sat W (cel a 78 (akL g y2 x2 e2 2) :: H) w' := by
  obtain ⟨⟨p1, p2⟩, hp⟩ : ∃ p, heldP g.gd 0 (x : Int) = p := ⟨_, rfl⟩
  have he : (p1, p2, false) = (y2, x2, e2) := by rw [← ho]; simp [goTo, aft, hp, hF.gn]
  cases he
  have HP := Lib.hid hp
  clear hp ho
  have hn := (hg.n_eq hF).1
  have h1 := hF.n1
  have h2 := hF.n12
  have h3 := hF.m1
  have h4 := hF.m600
  obtain ⟨b, off, b0, o0, c0, _, eb, hc0, _⟩ := hg.at_ hF hs.drop (y := 0) (by omega)
  have HC0 := Lib.hid hc0
  have HG := Lib.hid hg
  have HF := Lib.hid hF
  clear hc0 hg hF
  obtain ⟨aR, n', cR, aI, nI, cI, R, I, cy, cx, v1, v2, v3, v4, v5, v6, v7, v8⟩ := g
  obtain rfl : n = n' := hn.symm
  obtain rfl : aR = _ := eb
  have hy9 : (y : Int) < (n : Int) := by omega
  have hx9 : (x : Int) < (m : Int) := by omega
  clear hy hx
  go_enter Try.func34, Try.ntmps34
  go_wp2_with (first | (go_at_call 52; refine (to52_yes (g := ⟨some ⟨b, off, none⟩, n, cR, aI, nI, cI, R, I, cy, cx, v1, v2, v3, v4, v5, v6, v7, v8⟩) (py := 0) (px := x) hs (by (repeat first | exact HG.out | apply GS.more)) HF.out HP.out).mono ?_; clear hs; rintro e w ⟨rfl, hs⟩) | ((with_reducible refine isl ?_); first | ((with_reducible apply ldx); exact rfl; exact rfl; exact rfl; exact hs.b0; exact rfl; kernel_rfl) | ((with_reducible apply stx); exact rfl; exact rfl; exact rfl; exact hs.b0; exact rfl; exact rfl; exact rfl; kernel_rfl; exact rfl; clear hs; intro w hs) | ((with_reducible apply stcx); exact rfl; exact rfl; exact rfl; exact hs.b0; exact rfl; exact rfl; kernel_rfl; exact rfl; clear hs; intro w hs) | ((with_reducible refine wrap hs ?_); clear hs; intro w hs) | ((with_reducible refine wrapn hs ?_); clear hs; intro w hs) | ((with_reducible refine wrapd hs ?_); clear hs; intro w hs)))
  refine end_end0 rfl rfl ?_
  exact ⟨rfl, by refine sb_from ?_ hs; repeat constructor⟩

set_option maxHeartbeats 2000000 in
set_option maxRecDepth 20000 in
theorem cmd35 {a y x : Nat} {e2 : Bool} {y2 x2 : Nat} (hs : sat W (cel a 78 (akL g y x false 0) :: H) w) (hg : GS W H g) (hF : Fit g.gd n m) (hy : y < n) (hx : x < m) (ho : aft y x (goTo g.gd y x 10) = (y2, x2, e2)) :
    Calls Try.prog 35 #[.pointer (some ⟨a, 0, none⟩)] w fun e' w' => e' = .returned (.tuple #[]) ∧ sat W (cel a 78 (akL g y2 x2 e2 2) :: H) w' := by
  obtain ⟨⟨p1, p2⟩, hp⟩ : ∃ p, heldP g.gd ((n : Int) - 1) (x : Int) = p := ⟨_, rfl⟩
  have he : (p1, p2, false) = (y2, x2, e2) := by rw [← ho]; simp [goTo, aft, hp, hF.gn]
  cases he
  have HP := Lib.hid hp
  clear hp ho
  have hn := (hg.n_eq hF).1
  have h1 := hF.n1
  have h2 := hF.n12
  have h3 := hF.m1
  have h4 := hF.m600
  obtain ⟨b, off, b0, o0, c0, _, eb, hc0, _⟩ := hg.at_ hF hs.drop (y := 0) (by omega)
  have HC0 := Lib.hid hc0
  have HG := Lib.hid hg
  have HF := Lib.hid hF
  clear hc0 hg hF
  obtain ⟨aR, n', cR, aI, nI, cI, R, I, cy, cx, v1, v2, v3, v4, v5, v6, v7, v8⟩ := g
  obtain rfl : n = n' := hn.symm
  obtain rfl : aR = _ := eb
  have hy9 : (y : Int) < (n : Int) := by omega
  have hx9 : (x : Int) < (m : Int) := by omega
  clear hy hx
  go_enter Try.func35, Try.ntmps35
  go_upto_region 1 with (first | ((with_reducible refine isl ?_); first | ((with_reducible apply ldx); exact rfl; exact rfl; exact rfl; exact hs.b0; exact rfl; kernel_rfl) | ((with_reducible apply stx); exact rfl; exact rfl; exact rfl; exact hs.b0; exact rfl; exact rfl; exact rfl; kernel_rfl; exact rfl; clear hs; intro w hs) | ((with_reducible apply stcx); exact rfl; exact rfl; exact rfl; exact hs.b0; exact rfl; exact rfl; kernel_rfl; exact rfl; clear hs; intro w hs) | ((with_reducible refine wrap hs ?_); clear hs; intro w hs) | ((with_reducible refine wrapn hs ?_); clear hs; intro w hs) | ((with_reducible refine wrapd hs ?_); clear hs; intro w hs)))
  ((try simp only [Act.put, List.setIfInBounds_toArray, List.set_cons_succ, List.set_cons_zero]); refine region_tail 14 hs (by kernel_rfl) (by kernel_rfl) ?_; simp only [List.take_succ_cons, List.take_zero, List.drop_succ_cons, List.drop_zero]; clear hs; intro w hs; (repeat ((first | ((with_reducible apply ldt hs.b0); exact rfl; exact rfl; exact rfl; exact rfl; kernel_rfl) | go_big_quiet_step (fail)); (try simp only [Act.put, List.setIfInBounds_toArray, List.set_cons_succ, List.set_cons_zero]))); refine wpQuiet_nil ?_)
  go_wp2_with (first | (go_at_call 52; refine (to52_yes (g := ⟨some ⟨b, off, none⟩, n, cR, aI, nI, cI, R, I, cy, cx, v1, v2, v3, v4, v5, v6, v7, v8⟩) (py := (n : Int) - 1) (px := x) hs (by (repeat first | exact HG.out | apply GS.more)) HF.out HP.out).mono ?_; clear hs; rintro e w ⟨rfl, hs⟩) | ((with_reducible refine isl ?_); first | ((with_reducible apply ldx); exact rfl; exact rfl; exact rfl; exact hs.b0; exact rfl; kernel_rfl) | ((with_reducible apply stx); exact rfl; exact rfl; exact rfl; exact hs.b0; exact rfl; exact rfl; exact rfl; kernel_rfl; exact rfl; clear hs; intro w hs) | ((with_reducible apply stcx); exact rfl; exact rfl; exact rfl; exact hs.b0; exact rfl; exact rfl; kernel_rfl; exact rfl; clear hs; intro w hs) | ((with_reducible refine wrap hs ?_); clear hs; intro w hs) | ((with_reducible refine wrapn hs ?_); clear hs; intro w hs) | ((with_reducible refine wrapd hs ?_); clear hs; intro w hs)))
  refine end_end0 rfl rfl ?_
  exact ⟨rfl, by refine sb_from ?_ hs; repeat constructor⟩

set_option maxHeartbeats 2000000 in
set_option maxRecDepth 20000 in
theorem cmd36 {a y x : Nat} {e2 : Bool} {y2 x2 : Nat} (hs : sat W (cel a 78 (akL g y x false 0) :: H) w) (hg : GS W H g) (hF : Fit g.gd n m) (hy : y < n) (hx : x < m) (ho : aft y x (goTo g.gd y x 11) = (y2, x2, e2)) :
    Calls Try.prog 36 #[.pointer (some ⟨a, 0, none⟩)] w fun e' w' => e' = .returned (.tuple #[]) ∧ sat W (cel a 78 (akL g y2 x2 e2 0) :: H) w' := by
  obtain ⟨⟨p1, p2⟩, hp⟩ : ∃ p, heldP g.gd g.gd.cy g.gd.cx = p := ⟨_, rfl⟩
  have he : (p1, p2, false) = (y2, x2, e2) := by rw [← ho]; simp [goTo, aft, hp, hF.gn]
  cases he
  have HP := Lib.hid hp
  clear hp ho
  have hn := (hg.n_eq hF).1
  have h1 := hF.n1
  have h2 := hF.n12
  have h3 := hF.m1
  have h4 := hF.m600
  obtain ⟨b, off, b0, o0, c0, _, eb, hc0, _⟩ := hg.at_ hF hs.drop (y := 0) (by omega)
  have HC0 := Lib.hid hc0
  have HG := Lib.hid hg
  have HF := Lib.hid hF
  clear hc0 hg hF
  obtain ⟨aR, n', cR, aI, nI, cI, R, I, cy, cx, v1, v2, v3, v4, v5, v6, v7, v8⟩ := g
  obtain rfl : n = n' := hn.symm
  obtain rfl : aR = _ := eb
  have hy9 : (y : Int) < (n : Int) := by omega
  have hx9 : (x : Int) < (m : Int) := by omega
  clear hy hx
  go_enter Try.func36, Try.ntmps36
  ((try simp only [Act.put, List.setIfInBounds_toArray, List.set_cons_succ, List.set_cons_zero]); refine region_tail 12 hs (by kernel_rfl) (by kernel_rfl) ?_; simp only [List.take_succ_cons, List.take_zero, List.drop_succ_cons, List.drop_zero]; clear hs; intro w hs; (repeat ((first | ((with_reducible apply ldt hs.b0); exact rfl; exact rfl; exact rfl; exact rfl; kernel_rfl) | go_big_quiet_step (fail)); (try simp only [Act.put, List.setIfInBounds_toArray, List.set_cons_succ, List.set_cons_zero]))); refine wpQuiet_nil ?_)
  go_wp2_with (first | (go_at_call 52; refine (to52_yes (g := ⟨some ⟨b, off, none⟩, n, cR, aI, nI, cI, R, I, cy, cx, v1, v2, v3, v4, v5, v6, v7, v8⟩) (py := cy) (px := cx) hs (by (repeat first | exact HG.out | apply GS.more)) HF.out HP.out).mono ?_; clear hs; rintro e w ⟨rfl, hs⟩) | ((with_reducible refine isl ?_); first | ((with_reducible apply ldx); exact rfl; exact rfl; exact rfl; exact hs.b0; exact rfl; kernel_rfl) | ((with_reducible apply stx); exact rfl; exact rfl; exact rfl; exact hs.b0; exact rfl; exact rfl; exact rfl; kernel_rfl; exact rfl; clear hs; intro w hs) | ((with_reducible apply stcx); exact rfl; exact rfl; exact rfl; exact hs.b0; exact rfl; exact rfl; kernel_rfl; exact rfl; clear hs; intro w hs) | ((with_reducible refine wrap hs ?_); clear hs; intro w hs) | ((with_reducible refine wrapn hs ?_); clear hs; intro w hs) | ((with_reducible refine wrapd hs ?_); clear hs; intro w hs)))
  refine end_end0 rfl rfl ?_
  exact ⟨rfl, by refine sb_from ?_ hs; repeat constructor⟩

set_option maxHeartbeats 2000000 in
set_option maxRecDepth 20000 in
theorem cmd37 {a y x : Nat} {e2 : Bool} {y2 x2 : Nat} (hs : sat W (cel a 78 (akL g y x false 0) :: H) w) (hg : GS W H g) (hF : Fit g.gd n m) (hy : y < n) (hx : x < m) (ho : aft y x (goTo g.gd y x 12) = (y2, x2, e2)) :
    Calls Try.prog 37 #[.pointer (some ⟨a, 0, none⟩)] w fun e' w' => e' = .returned (.tuple #[]) ∧ sat W (cel a 78 (akL g y2 x2 e2 0) :: H) w' := by
  have he : (y, x, false) = (y2, x2, e2) := by rw [← ho]; simp [goTo, aft]
  cases he
  clear ho
  obtain ⟨aR, n', cR, aI, nI, cI, R, I, cy, cx, v1, v2, v3, v4, v5, v6, v7, v8⟩ := g
  go_enter Try.func37, Try.ntmps37
  go_wp2_with (first | ((with_reducible refine isl ?_); first | ((with_reducible apply ldx); exact rfl; exact rfl; exact rfl; exact hs.b0; exact rfl; kernel_rfl) | ((with_reducible apply stx); exact rfl; exact rfl; exact rfl; exact hs.b0; exact rfl; exact rfl; exact rfl; kernel_rfl; exact rfl; clear hs; intro w hs) | ((with_reducible apply stcx); exact rfl; exact rfl; exact rfl; exact hs.b0; exact rfl; exact rfl; kernel_rfl; exact rfl; clear hs; intro w hs) | ((with_reducible refine wrap hs ?_); clear hs; intro w hs) | ((with_reducible refine wrapn hs ?_); clear hs; intro w hs) | ((with_reducible refine wrapd hs ?_); clear hs; intro w hs)))
  refine end_end0 rfl rfl ?_
  exact ⟨rfl, by refine sb_from ?_ hs; repeat constructor⟩

set_option maxHeartbeats 2000000 in
set_option maxRecDepth 20000 in
theorem cmd38 {a y x : Nat} {e2 : Bool} {y2 x2 : Nat} (hs : sat W (cel a 78 (akL g y x false 0) :: H) w) (hg : GS W H g) (hF : Fit g.gd n m) (hy : y < n) (hx : x < m) (ho : aft y x (goTo g.gd y x 13) = (y2, x2, e2)) :
    Calls Try.prog 38 #[.pointer (some ⟨a, 0, none⟩)] w fun e' w' => e' = .returned (.tuple #[]) ∧ sat W (cel a 78 (akL g y2 x2 e2 1) :: H) w' := by
  have he : (y, x, false) = (y2, x2, e2) := by rw [← ho]; simp [goTo, aft]
  cases he
  clear ho
  obtain ⟨aR, n', cR, aI, nI, cI, R, I, cy, cx, v1, v2, v3, v4, v5, v6, v7, v8⟩ := g
  go_enter Try.func38, Try.ntmps38
  go_wp2_with (first | ((with_reducible refine isl ?_); first | ((with_reducible apply ldx); exact rfl; exact rfl; exact rfl; exact hs.b0; exact rfl; kernel_rfl) | ((with_reducible apply stx); exact rfl; exact rfl; exact rfl; exact hs.b0; exact rfl; exact rfl; exact rfl; kernel_rfl; exact rfl; clear hs; intro w hs) | ((with_reducible apply stcx); exact rfl; exact rfl; exact rfl; exact hs.b0; exact rfl; exact rfl; kernel_rfl; exact rfl; clear hs; intro w hs) | ((with_reducible refine wrap hs ?_); clear hs; intro w hs) | ((with_reducible refine wrapn hs ?_); clear hs; intro w hs) | ((with_reducible refine wrapd hs ?_); clear hs; intro w hs)))
  refine end_end0 rfl rfl ?_
  exact ⟨rfl, by refine sb_from ?_ hs; repeat constructor⟩

set_option maxHeartbeats 2000000 in
set_option maxRecDepth 20000 in
theorem cmd39 {a y x : Nat} {e2 : Bool} {y2 x2 : Nat} (hs : sat W (cel a 78 (akL g y x false 0) :: H) w) (hg : GS W H g) (hF : Fit g.gd n m) (hy : y < n) (hx : x < m) (ho : aft y x (goTo g.gd y x 14) = (y2, x2, e2)) :
    Calls Try.prog 39 #[.pointer (some ⟨a, 0, none⟩)] w fun e' w' => e' = .returned (.tuple #[]) ∧ sat W (cel a 78 (akL g y2 x2 e2 2) :: H) w' := by
  have he : (y, x, false) = (y2, x2, e2) := by rw [← ho]; simp [goTo, aft]
  cases he
  clear ho
  obtain ⟨aR, n', cR, aI, nI, cI, R, I, cy, cx, v1, v2, v3, v4, v5, v6, v7, v8⟩ := g
  go_enter Try.func39, Try.ntmps39
  go_wp2_with (first | ((with_reducible refine isl ?_); first | ((with_reducible apply ldx); exact rfl; exact rfl; exact rfl; exact hs.b0; exact rfl; kernel_rfl) | ((with_reducible apply stx); exact rfl; exact rfl; exact rfl; exact hs.b0; exact rfl; exact rfl; exact rfl; kernel_rfl; exact rfl; clear hs; intro w hs) | ((with_reducible apply stcx); exact rfl; exact rfl; exact rfl; exact hs.b0; exact rfl; exact rfl; kernel_rfl; exact rfl; clear hs; intro w hs) | ((with_reducible refine wrap hs ?_); clear hs; intro w hs) | ((with_reducible refine wrapn hs ?_); clear hs; intro w hs) | ((with_reducible refine wrapd hs ?_); clear hs; intro w hs)))
  refine end_end0 rfl rfl ?_
  exact ⟨rfl, by refine sb_from ?_ hs; repeat constructor⟩
end Go.Proofs.Ytcheljogpffabaa
namespace Go.Rev
open Go.Words Go.Proofs.Ytcheljogpffabaa
theorem trim_at : ∀ (bl : List Bool) (t : Nat), (∀ j, t ≤ j → bl[j]? ≠ some false) → (t = 0 ∨ bl[t - 1]? = some false) → trim bl = t := by
  intro bl
  induction bl using Go.Words.snoc_ind with
  | h0 => intro t h1 h2; rcases h2 with rfl | h2
          · rfl
          · simp at h2
  | h1 l b ih =>
    intro t h1 h2
    rw [trim_snoc]
    by_cases hb : b = true
    · rw [if_pos hb]
      subst hb
      refine ih t (fun j hj h => h1 j hj ?_) ?_
      · have := (List.getElem?_eq_some_iff.1 h).1
        rw [List.getElem?_append_left this]; exact h
      · rcases h2 with h2 | h2
        · exact .inl h2
        · right
          by_cases hl : t - 1 < l.length
          · rwa [List.getElem?_append_left hl] at h2
          · rw [List.getElem?_append_right (by omega)] at h2
            have := List.mem_of_getElem? h2
            simp at this
    · rw [if_neg hb]
      have hb : b = false := by simpa using hb
      subst hb
      by_cases ht : t ≤ l.length
      · exact absurd (by simp) (h1 l.length ht)
      · rcases h2 with h2 | h2
        · omega
        · have := (List.getElem?_eq_some_iff.1 h2).1
          simp at this
          omega
theorem end_nil {bl : List Bool} (h : words bl = []) : endX bl = 0 := by
  unfold endX
  rw [trim_at bl 0 (fun j _ hj => ?_) (.inl rfl)]
  obtain ⟨x, hx, _⟩ := (ws_ok bl).all j (Nat.zero_le _) hj
  rw [h] at hx
  cases hx
theorem end_last {bl : List Bool} {k : Nat} {p : Nat × Nat} (hk : (words bl).length = k + 1) (h : (words bl)[k]? = some p) : (endX bl : Int) = (p.2 : Int) - 1 ∧ 1 ≤ p.2 ∧ p.2 ≤ bl.length := by
  have ok := ws_ok bl
  obtain ⟨_, h2, h3⟩ := ok.each p (List.mem_of_getElem? h)
  have e : trim bl = p.2 := by
    refine trim_at bl p.2 (fun j hj hb => ?_) (.inr (ok.dark p (List.mem_of_getElem? h) (p.2 - 1) (by omega) (by omega)))
    obtain ⟨x, hx, hx1, hx2⟩ := ok.all j (Nat.zero_le _) hb
    obtain ⟨i, hi⟩ := List.mem_iff_getElem?.1 hx
    have hil := (List.getElem?_eq_some_iff.1 hi).1
    by_cases hik : i = k
    · subst hik; rw [h] at hi; cases hi; omega
    · have hkl := (List.getElem?_eq_some_iff.1 h).1
      have := List.pairwise_iff_getElem.1 ok.apart i k hil hkl (by omega)
      rw [(List.getElem?_eq_some_iff.1 hi).2, (List.getElem?_eq_some_iff.1 h).2] at this
      omega
  unfold endX
  rw [e]
  omega
end Go.Rev
namespace Go.Proofs.Ytcheljogpffabaa
open Go.RowKit Go.Mem Go.Words Go.Deep Go.Rev
variable {W w : World} {H : List HProp} {t : Nat} {l : List Cl}
theorem prev_q {col v : Int} (hl : l.length ≤ 600) (e : prevW (words (l.map isB)) col = v) (hs : sat W (tx t (textOf l) :: H) w) :
    Calls Try.prog 55 #[.pointer (some ⟨t, 0, none⟩), .int .i64 col] w fun e w' => e = .returned (.int .i64 v) ∧ sat W (tx t (textOf l) :: H) w' := by
  have := prev16 (Hc := [tx t (textOf l)]) (ws_tx (x := textOf l) rfl (by rw [text_blank]; omega)) col hs
  rw [tx_cells, e] at this
  exact this
theorem next_q {col v : Int} (hl : l.length ≤ 600) (e : nextW (words (l.map isB)) col = v) (hs : sat W (tx t (textOf l) :: H) w) :
    Calls Try.prog 56 #[.pointer (some ⟨t, 0, none⟩), .int .i64 col] w fun e w' => e = .returned (.int .i64 v) ∧ sat W (tx t (textOf l) :: H) w' := by
  have := next15 (Hc := [tx t (textOf l)]) (ws_tx (x := textOf l) rfl (by rw [text_blank]; omega)) col hs
  rw [tx_cells, e] at this
  exact this
theorem wordq_t {col : Int} {v : Option (Nat × Nat)} (hl : l.length ≤ 600) (e : wordW (words (l.map isB)) col = v) (hs : sat W (tx t (textOf l) :: H) w) :
    Calls Try.prog 59 #[.pointer (some ⟨t, 0, none⟩), .int .i64 col] w fun e w' => e = .returned (wordV v) ∧ sat W (tx t (textOf l) :: H) w' := by
  have := word17 (Hc := [tx t (textOf l)]) (ws_tx (x := textOf l) rfl (by rw [text_blank]; omega)) col hs
  rw [tx_cells, e] at this
  exact this
theorem words_q {ws : List (Nat × Nat)} {k : Nat} (hl : l.length ≤ 600) (e : words (l.map isB) = ws) (ek : ws.length = k) (hs : sat W (tx t (textOf l) :: H) w) :
    Calls Try.prog 58 #[.pointer (some ⟨t, 0, none⟩)] w fun e w' => ∃ a c, e = .returned (.slice a k c) ∧ sat W (own 87 2 (.slice a k c) k (exs ws) :: tx t (textOf l) :: H) w' := by
  have h0 := words_len (l.map isB) _ 0 rfl
  have := words14 (Hc := [tx t (textOf l)]) (ws_tx (x := textOf l) rfl (by rw [text_blank]; omega)) (by rw [tx_cells]; unfold words; rw [List.length_map] at h0; omega) hs
  rw [tx_cells, e, ek] at this
  exact this
theorem part_q {v : List Int} {fr to_ : Int} (hl : size l ≤ 600) (e : rpart l fr to_ = v) (hs : sat W (tx t (textOf l) :: H) w) :
    Calls Try.prog 60 #[.pointer (some ⟨t, 0, none⟩), .int .i64 fr, .int .i64 to_] w fun e w' => ∃ a c, e = .returned (.slice a v.length c) ∧ sat W (own 21 1 (.slice a v.length c) v.length (i32s v) :: tx t (textOf l) :: H) w' := by
  have h0 := (ok_run l).hz
  have h1 := (ok_run l).hc
  exact part_t (tx_ok l) (show (run l).cols.length ≤ 1000 by omega) (by rw [part_text, e]) hs
theorem trim_q {v : List Int} (hl : size l ≤ 600) (e : rpart l 0 (trim (l.map isB)) = v) (hs : sat W (tx t (textOf l) :: H) w) :
    Calls Try.prog 62 #[.pointer (some ⟨t, 0, none⟩)] w fun e w' => ∃ a c, e = .returned (.slice a v.length c) ∧ sat W (own 21 1 (.slice a v.length c) v.length (i32s v) :: tx t (textOf l) :: H) w' := by
  have h0 := (ok_run l).hz
  have h1 := (ok_run l).hc
  have h2 := len_le_size l
  exact trimmed20 (tx_ok l) (show (run l).cols.length ≤ 1000 by omega) (by rw [text_blank]; omega) (by rw [part_text, tx_cells, e]) hs
end Go.Proofs.Ytcheljogpffabaa
