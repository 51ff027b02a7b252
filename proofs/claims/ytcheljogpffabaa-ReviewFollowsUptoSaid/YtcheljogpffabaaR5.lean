/- Law 21: the commands but for the words. -/
import Derived.Test.YtcheljogpffabaaR4
namespace Go.Proofs.Ytcheljogpffabaa
open Go.RowKit Go.Mem Go.Words Go.Deep Go.Rev
variable {W w : World} {H : List HProp} {g : Gm} {n m : Nat}
attribute [local irreducible] rowTy oneTy World.setCell World.setCells World.alloc World.drew World.drewN Calls sat cel own blk old wpQuiet wpList tx
set_option maxHeartbeats 2000000 in
set_option maxRecDepth 20000 in
theorem cmd26 {a y x : Nat} {e2 : Bool} {y2 x2 : Nat} (hs : sat W (cel a 78 (akL g y x false 0) :: H) w) (hg : GS W H g) (hF : Fit g.gd n m) (hy : y < n) (hx : x < m) (ho : aft y x (goTo g.gd y x 1) = (y2, x2, e2)) :
    Calls Try.prog 26 #[.pointer (some ⟨a, 0, none⟩)] w fun e' w' => e' = .returned (.tuple #[]) ∧ sat W (cel a 78 (akL g y2 x2 e2 0) :: H) w' := by
  by_cases h0 : x = 0
  · skip
    have he : (y, x, true) = (y2, x2, e2) := by rw [← ho]; simp [goTo, aft, h0]
    cases he
    clear ho
    have hn := (hg.n_eq hF).1
    have h1 := hF.n1
    have h2 := hF.n12
    have h3 := hF.m1
    have h4 := hF.m600
    obtain ⟨b, off, b0, o0, c0, _, eb, hc0, _⟩ := hg.at_ hF hs.drop (y := 0) (by omega)
    have HC0 := Lib.hid hc0
    have HG := Lib.hid hg
    have HF := Lib.hid hF
    clear hc0 hg hF
    obtain ⟨aR, n', cR, aI, nI, cI, R, I, cy, cx, v1, v2, v3, v4, v5, v6, v7, v8⟩ := g
    obtain rfl : n = n' := hn.symm
    obtain rfl : aR = _ := eb
    have hy9 : (y : Int) < (n : Int) := by omega
    have hx9 : (x : Int) < (m : Int) := by omega
    clear hy hx
    have hx0 : decide (0 < x) = false := decide_eq_false (by omega)
    clear h0
    go_enter Try.func26, Try.ntmps26
    ((try simp only [Act.put, List.setIfInBounds_toArray, List.set_cons_succ, List.set_cons_zero]); refine region_tail 19 hs (by kernel_rfl) (by kernel_rfl) ?_; simp only [List.take_succ_cons, List.take_zero, List.drop_succ_cons, List.drop_zero]; clear hs; intro w hs; (repeat ((first | ((with_reducible apply ldt hs.b0); exact rfl; exact rfl; exact rfl; exact rfl; kernel_rfl) | go_big_quiet_step (fail)); (try simp only [Act.put, List.setIfInBounds_toArray, List.set_cons_succ, List.set_cons_zero]))); refine wpQuiet_nil ?_)
    go_wp2_with (first | (go_at_call 52; refine (to52_no (g := ⟨some ⟨b, off, none⟩, n, cR, aI, nI, cI, R, I, cy, cx, v1, v2, v3, v4, v5, v6, v7, v8⟩) (py := y) (px := (x : Int) - 1) hs).mono ?_; clear hs; rintro e w ⟨rfl, hs⟩) | ((with_reducible refine isl ?_); first | ((with_reducible apply ld hs.b0); exact rfl; exact rfl; exact rfl; exact rfl; kernel_rfl) | ((with_reducible apply st hs.b0); exact rfl; exact rfl; exact rfl; exact rfl; exact rfl; exact rfl; kernel_rfl; exact rfl; clear hs; intro w hs) | ((with_reducible apply stc hs.b0); exact rfl; exact rfl; exact rfl; exact rfl; exact rfl; kernel_rfl; exact rfl; clear hs; intro w hs) | ((with_reducible refine wrap hs ?_); clear hs; intro w hs) | ((with_reducible refine wrapn hs ?_); clear hs; intro w hs) | ((with_reducible refine wrapd hs ?_); clear hs; intro w hs)))
    refine end_end0 rfl rfl ?_
    exact ⟨rfl, by refine sb_from ?_ hs; repeat constructor⟩
  · skip
    obtain ⟨⟨p1, p2⟩, hp⟩ : ∃ p, heldP g.gd (y : Int) ((x : Int) - 1) = p := ⟨_, rfl⟩
    have he : (p1, p2, false) = (y2, x2, e2) := by rw [← ho]; simp [goTo, aft, hp, h0]
    cases he
    have HP := Lib.hid hp
    clear hp ho
    have hn := (hg.n_eq hF).1
    have h1 := hF.n1
    have h2 := hF.n12
    have h3 := hF.m1
    have h4 := hF.m600
    obtain ⟨b, off, b0, o0, c0, _, eb, hc0, _⟩ := hg.at_ hF hs.drop (y := 0) (by omega)
    have HC0 := Lib.hid hc0
    have HG := Lib.hid hg
    have HF := Lib.hid hF
    clear hc0 hg hF
    obtain ⟨aR, n', cR, aI, nI, cI, R, I, cy, cx, v1, v2, v3, v4, v5, v6, v7, v8⟩ := g
    obtain rfl : n = n' := hn.symm
    obtain rfl : aR = _ := eb
    have hy9 : (y : Int) < (n : Int) := by omega
    have hx9 : (x : Int) < (m : Int) := by omega
    clear hy hx
    have hx0 : decide (0 < x) = true := decide_eq_true (by omega)
    clear h0
    go_enter Try.func26, Try.ntmps26
    ((try simp only [Act.put, List.setIfInBounds_toArray, List.set_cons_succ, List.set_cons_zero]); refine region_tail 19 hs (by kernel_rfl) (by kernel_rfl) ?_; simp only [List.take_succ_cons, List.take_zero, List.drop_succ_cons, List.drop_zero]; clear hs; intro w hs; (repeat ((first | ((with_reducible apply ldt hs.b0); exact rfl; exact rfl; exact rfl; exact rfl; kernel_rfl) | go_big_quiet_step (fail)); (try simp only [Act.put, List.setIfInBounds_toArray, List.set_cons_succ, List.set_cons_zero]))); refine wpQuiet_nil ?_)
    go_wp2_with (first | (go_at_call 52; refine (to52_yes (g := ⟨some ⟨b, off, none⟩, n, cR, aI, nI, cI, R, I, cy, cx, v1, v2, v3, v4, v5, v6, v7, v8⟩) (py := y) (px := (x : Int) - 1) hs (by (first | exact HG.out | exact HG.out.more | exact HG.out.more.more | exact HG.out.more.more.more | exact HG.out.more.more.more.more | exact HG.out.more.more.more.more.more | exact HG.out.more.more.more.more.more.more | exact HG.out.more.more.more.more.more.more.more | exact HG.out.more.more.more.more.more.more.more.more)) HF.out HP.out).mono ?_; clear hs; rintro e w ⟨rfl, hs⟩) | ((with_reducible refine isl ?_); first | ((with_reducible apply ld hs.b0); exact rfl; exact rfl; exact rfl; exact rfl; kernel_rfl) | ((with_reducible apply st hs.b0); exact rfl; exact rfl; exact rfl; exact rfl; exact rfl; exact rfl; kernel_rfl; exact rfl; clear hs; intro w hs) | ((with_reducible apply stc hs.b0); exact rfl; exact rfl; exact rfl; exact rfl; exact rfl; kernel_rfl; exact rfl; clear hs; intro w hs) | ((with_reducible refine wrap hs ?_); clear hs; intro w hs) | ((with_reducible refine wrapn hs ?_); clear hs; intro w hs) | ((with_reducible refine wrapd hs ?_); clear hs; intro w hs)))
    refine end_end0 rfl rfl ?_
    exact ⟨rfl, by refine sb_from ?_ hs; repeat constructor⟩

set_option maxHeartbeats 2000000 in
set_option maxRecDepth 20000 in
theorem cmd28 {a y x : Nat} {e2 : Bool} {y2 x2 : Nat} (hs : sat W (cel a 78 (akL g y x false 0) :: H) w) (hg : GS W H g) (hF : Fit g.gd n m) (hy : y < n) (hx : x < m) (ho : aft y x (goTo g.gd y x 3) = (y2, x2, e2)) :
    Calls Try.prog 28 #[.pointer (some ⟨a, 0, none⟩)] w fun e' w' => e' = .returned (.tuple #[]) ∧ sat W (cel a 78 (akL g y2 x2 e2 2) :: H) w' := by
  by_cases h0 : y = 0
  · skip
    have he : (y, x, true) = (y2, x2, e2) := by rw [← ho]; simp [goTo, aft, h0]
    cases he
    clear ho
    have hn := (hg.n_eq hF).1
    have h1 := hF.n1
    have h2 := hF.n12
    have h3 := hF.m1
    have h4 := hF.m600
    obtain ⟨b, off, b0, o0, c0, _, eb, hc0, _⟩ := hg.at_ hF hs.drop (y := 0) (by omega)
    have HC0 := Lib.hid hc0
    have HG := Lib.hid hg
    have HF := Lib.hid hF
    clear hc0 hg hF
    obtain ⟨aR, n', cR, aI, nI, cI, R, I, cy, cx, v1, v2, v3, v4, v5, v6, v7, v8⟩ := g
    obtain rfl : n = n' := hn.symm
    obtain rfl : aR = _ := eb
    have hy9 : (y : Int) < (n : Int) := by omega
    have hx9 : (x : Int) < (m : Int) := by omega
    clear hy hx
    have hx0 : decide (0 < y) = false := decide_eq_false (by omega)
    clear h0
    go_enter Try.func28, Try.ntmps28
    go_upto_region 1 with (first | ((with_reducible refine isl ?_); first | ((with_reducible apply ld hs.b0); exact rfl; exact rfl; exact rfl; exact rfl; kernel_rfl) | ((with_reducible apply st hs.b0); exact rfl; exact rfl; exact rfl; exact rfl; exact rfl; exact rfl; kernel_rfl; exact rfl; clear hs; intro w hs) | ((with_reducible apply stc hs.b0); exact rfl; exact rfl; exact rfl; exact rfl; exact rfl; kernel_rfl; exact rfl; clear hs; intro w hs) | ((with_reducible refine wrap hs ?_); clear hs; intro w hs) | ((with_reducible refine wrapn hs ?_); clear hs; intro w hs) | ((with_reducible refine wrapd hs ?_); clear hs; intro w hs)))
    ((try simp only [Act.put, List.setIfInBounds_toArray, List.set_cons_succ, List.set_cons_zero]); refine region_tail 19 hs (by kernel_rfl) (by kernel_rfl) ?_; simp only [List.take_succ_cons, List.take_zero, List.drop_succ_cons, List.drop_zero]; clear hs; intro w hs; (repeat ((first | ((with_reducible apply ldt hs.b0); exact rfl; exact rfl; exact rfl; exact rfl; kernel_rfl) | go_big_quiet_step (fail)); (try simp only [Act.put, List.setIfInBounds_toArray, List.set_cons_succ, List.set_cons_zero]))); refine wpQuiet_nil ?_)
    go_wp2_with (first | (go_at_call 52; refine (to52_no (g := ⟨some ⟨b, off, none⟩, n, cR, aI, nI, cI, R, I, cy, cx, v1, v2, v3, v4, v5, v6, v7, v8⟩) (py := (y : Int) - 1) (px := x) hs).mono ?_; clear hs; rintro e w ⟨rfl, hs⟩) | ((with_reducible refine isl ?_); first | ((with_reducible apply ld hs.b0); exact rfl; exact rfl; exact rfl; exact rfl; kernel_rfl) | ((with_reducible apply st hs.b0); exact rfl; exact rfl; exact rfl; exact rfl; exact rfl; exact rfl; kernel_rfl; exact rfl; clear hs; intro w hs) | ((with_reducible apply stc hs.b0); exact rfl; exact rfl; exact rfl; exact rfl; exact rfl; kernel_rfl; exact rfl; clear hs; intro w hs) | ((with_reducible refine wrap hs ?_); clear hs; intro w hs) | ((with_reducible refine wrapn hs ?_); clear hs; intro w hs) | ((with_reducible refine wrapd hs ?_); clear hs; intro w hs)))
    refine end_end0 rfl rfl ?_
    exact ⟨rfl, by refine sb_from ?_ hs; repeat constructor⟩
  · skip
    obtain ⟨⟨p1, p2⟩, hp⟩ : ∃ p, heldP g.gd ((y : Int) - 1) (x : Int) = p := ⟨_, rfl⟩
    have he : (p1, p2, false) = (y2, x2, e2) := by rw [← ho]; simp [goTo, aft, hp, h0]
    cases he
    have HP := Lib.hid hp
    clear hp ho
    have hn := (hg.n_eq hF).1
    have h1 := hF.n1
    have h2 := hF.n12
    have h3 := hF.m1
    have h4 := hF.m600
    obtain ⟨b, off, b0, o0, c0, _, eb, hc0, _⟩ := hg.at_ hF hs.drop (y := 0) (by omega)
    have HC0 := Lib.hid hc0
    have HG := Lib.hid hg
    have HF := Lib.hid hF
    clear hc0 hg hF
    obtain ⟨aR, n', cR, aI, nI, cI, R, I, cy, cx, v1, v2, v3, v4, v5, v6, v7, v8⟩ := g
    obtain rfl : n = n' := hn.symm
    obtain rfl : aR = _ := eb
    have hy9 : (y : Int) < (n : Int) := by omega
    have hx9 : (x : Int) < (m : Int) := by omega
    clear hy hx
    have hx0 : decide (0 < y) = true := decide_eq_true (by omega)
    clear h0
    go_enter Try.func28, Try.ntmps28
    go_upto_region 1 with (first | ((with_reducible refine isl ?_); first | ((with_reducible apply ld hs.b0); exact rfl; exact rfl; exact rfl; exact rfl; kernel_rfl) | ((with_reducible apply st hs.b0); exact rfl; exact rfl; exact rfl; exact rfl; exact rfl; exact rfl; kernel_rfl; exact rfl; clear hs; intro w hs) | ((with_reducible apply stc hs.b0); exact rfl; exact rfl; exact rfl; exact rfl; exact rfl; kernel_rfl; exact rfl; clear hs; intro w hs) | ((with_reducible refine wrap hs ?_); clear hs; intro w hs) | ((with_reducible refine wrapn hs ?_); clear hs; intro w hs) | ((with_reducible refine wrapd hs ?_); clear hs; intro w hs)))
    ((try simp only [Act.put, List.setIfInBounds_toArray, List.set_cons_succ, List.set_cons_zero]); refine region_tail 19 hs (by kernel_rfl) (by kernel_rfl) ?_; simp only [List.take_succ_cons, List.take_zero, List.drop_succ_cons, List.drop_zero]; clear hs; intro w hs; (repeat ((first | ((with_reducible apply ldt hs.b0); exact rfl; exact rfl; exact rfl; exact rfl; kernel_rfl) | go_big_quiet_step (fail)); (try simp only [Act.put, List.setIfInBounds_toArray, List.set_cons_succ, List.set_cons_zero]))); refine wpQuiet_nil ?_)
    go_wp2_with (first | (go_at_call 52; refine (to52_yes (g := ⟨some ⟨b, off, none⟩, n, cR, aI, nI, cI, R, I, cy, cx, v1, v2, v3, v4, v5, v6, v7, v8⟩) (py := (y : Int) - 1) (px := x) hs (by (first | exact HG.out | exact HG.out.more | exact HG.out.more.more | exact HG.out.more.more.more | exact HG.out.more.more.more.more | exact HG.out.more.more.more.more.more | exact HG.out.more.more.more.more.more.more | exact HG.out.more.more.more.more.more.more.more | exact HG.out.more.more.more.more.more.more.more.more)) HF.out HP.out).mono ?_; clear hs; rintro e w ⟨rfl, hs⟩) | ((with_reducible refine isl ?_); first | ((with_reducible apply ld hs.b0); exact rfl; exact rfl; exact rfl; exact rfl; kernel_rfl) | ((with_reducible apply st hs.b0); exact rfl; exact rfl; exact rfl; exact rfl; exact rfl; exact rfl; kernel_rfl; exact rfl; clear hs; intro w hs) | ((with_reducible apply stc hs.b0); exact rfl; exact rfl; exact rfl; exact rfl; exact rfl; kernel_rfl; exact rfl; clear hs; intro w hs) | ((with_reducible refine wrap hs ?_); clear hs; intro w hs) | ((with_reducible refine wrapn hs ?_); clear hs; intro w hs) | ((with_reducible refine wrapd hs ?_); clear hs; intro w hs)))
    refine end_end0 rfl rfl ?_
    exact ⟨rfl, by refine sb_from ?_ hs; repeat constructor⟩

set_option maxHeartbeats 2000000 in
set_option maxRecDepth 20000 in
theorem cmd29 {a y x : Nat} {e2 : Bool} {y2 x2 : Nat} (hs : sat W (cel a 78 (akL g y x false 0) :: H) w) (hg : GS W H g) (hF : Fit g.gd n m) (hy : y < n) (hx : x < m) (ho : aft y x (goTo g.gd y x 4) = (y2, x2, e2)) :
    Calls Try.prog 29 #[.pointer (some ⟨a, 0, none⟩)] w fun e' w' => e' = .returned (.tuple #[]) ∧ sat W (cel a 78 (akL g y2 x2 e2 2) :: H) w' := by
  by_cases h0 : ¬ y + 1 < n
  · skip
    have he : (y, x, true) = (y2, x2, e2) := by rw [← ho]; simp [goTo, aft, hF.gn, h0]
    cases he
    clear ho
    have hn := (hg.n_eq hF).1
    have h1 := hF.n1
    have h2 := hF.n12
    have h3 := hF.m1
    have h4 := hF.m600
    obtain ⟨b, off, b0, o0, c0, _, eb, hc0, _⟩ := hg.at_ hF hs.drop (y := 0) (by omega)
    have HC0 := Lib.hid hc0
    have HG := Lib.hid hg
    have HF := Lib.hid hF
    clear hc0 hg hF
    obtain ⟨aR, n', cR, aI, nI, cI, R, I, cy, cx, v1, v2, v3, v4, v5, v6, v7, v8⟩ := g
    obtain rfl : n = n' := hn.symm
    obtain rfl : aR = _ := eb
    have hy9 : (y : Int) < (n : Int) := by omega
    have hx9 : (x : Int) < (m : Int) := by omega
    clear hy hx
    have hx0 : decide ((y : Int) + 1 < (n : Int)) = false := decide_eq_false (by omega)
    clear h0
    go_enter Try.func29, Try.ntmps29
    go_upto_region 1 with (first | ((with_reducible refine isl ?_); first | ((with_reducible apply ld hs.b0); exact rfl; exact rfl; exact rfl; exact rfl; kernel_rfl) | ((with_reducible apply st hs.b0); exact rfl; exact rfl; exact rfl; exact rfl; exact rfl; exact rfl; kernel_rfl; exact rfl; clear hs; intro w hs) | ((with_reducible apply stc hs.b0); exact rfl; exact rfl; exact rfl; exact rfl; exact rfl; kernel_rfl; exact rfl; clear hs; intro w hs) | ((with_reducible refine wrap hs ?_); clear hs; intro w hs) | ((with_reducible refine wrapn hs ?_); clear hs; intro w hs) | ((with_reducible refine wrapd hs ?_); clear hs; intro w hs)))
    ((try simp only [Act.put, List.setIfInBounds_toArray, List.set_cons_succ, List.set_cons_zero]); refine region_tail 26 hs (by kernel_rfl) (by kernel_rfl) ?_; simp only [List.take_succ_cons, List.take_zero, List.drop_succ_cons, List.drop_zero]; clear hs; intro w hs; (repeat ((first | ((with_reducible apply ldt hs.b0); exact rfl; exact rfl; exact rfl; exact rfl; kernel_rfl) | go_big_quiet_step (fail)); (try simp only [Act.put, List.setIfInBounds_toArray, List.set_cons_succ, List.set_cons_zero]))); refine wpQuiet_nil ?_)
    go_wp2_with (first | (go_at_call 52; refine (to52_no (g := ⟨some ⟨b, off, none⟩, n, cR, aI, nI, cI, R, I, cy, cx, v1, v2, v3, v4, v5, v6, v7, v8⟩) (py := (y : Int) + 1) (px := x) hs).mono ?_; clear hs; rintro e w ⟨rfl, hs⟩) | ((with_reducible refine isl ?_); first | ((with_reducible apply ld hs.b0); exact rfl; exact rfl; exact rfl; exact rfl; kernel_rfl) | ((with_reducible apply st hs.b0); exact rfl; exact rfl; exact rfl; exact rfl; exact rfl; exact rfl; kernel_rfl; exact rfl; clear hs; intro w hs) | ((with_reducible apply stc hs.b0); exact rfl; exact rfl; exact rfl; exact rfl; exact rfl; kernel_rfl; exact rfl; clear hs; intro w hs) | ((with_reducible refine wrap hs ?_); clear hs; intro w hs) | ((with_reducible refine wrapn hs ?_); clear hs; intro w hs) | ((with_reducible refine wrapd hs ?_); clear hs; intro w hs)))
    refine end_end0 rfl rfl ?_
    exact ⟨rfl, by refine sb_from ?_ hs; repeat constructor⟩
  · skip
    obtain ⟨⟨p1, p2⟩, hp⟩ : ∃ p, heldP g.gd ((y : Int) + 1) (x : Int) = p := ⟨_, rfl⟩
    have he : (p1, p2, false) = (y2, x2, e2) := by rw [← ho]; simp [goTo, aft, hp, hF.gn, Decidable.not_not.1 h0]
    cases he
    have HP := Lib.hid hp
    clear hp ho
    have hn := (hg.n_eq hF).1
    have h1 := hF.n1
    have h2 := hF.n12
    have h3 := hF.m1
    have h4 := hF.m600
    obtain ⟨b, off, b0, o0, c0, _, eb, hc0, _⟩ := hg.at_ hF hs.drop (y := 0) (by omega)
    have HC0 := Lib.hid hc0
    have HG := Lib.hid hg
    have HF := Lib.hid hF
    clear hc0 hg hF
    obtain ⟨aR, n', cR, aI, nI, cI, R, I, cy, cx, v1, v2, v3, v4, v5, v6, v7, v8⟩ := g
    obtain rfl : n = n' := hn.symm
    obtain rfl : aR = _ := eb
    have hy9 : (y : Int) < (n : Int) := by omega
    have hx9 : (x : Int) < (m : Int) := by omega
    clear hy hx
    have hx0 : decide ((y : Int) + 1 < (n : Int)) = true := decide_eq_true (by omega)
    clear h0
    go_enter Try.func29, Try.ntmps29
    go_upto_region 1 with (first | ((with_reducible refine isl ?_); first | ((with_reducible apply ld hs.b0); exact rfl; exact rfl; exact rfl; exact rfl; kernel_rfl) | ((with_reducible apply st hs.b0); exact rfl; exact rfl; exact rfl; exact rfl; exact rfl; exact rfl; kernel_rfl; exact rfl; clear hs; intro w hs) | ((with_reducible apply stc hs.b0); exact rfl; exact rfl; exact rfl; exact rfl; exact rfl; kernel_rfl; exact rfl; clear hs; intro w hs) | ((with_reducible refine wrap hs ?_); clear hs; intro w hs) | ((with_reducible refine wrapn hs ?_); clear hs; intro w hs) | ((with_reducible refine wrapd hs ?_); clear hs; intro w hs)))
    ((try simp only [Act.put, List.setIfInBounds_toArray, List.set_cons_succ, List.set_cons_zero]); refine region_tail 26 hs (by kernel_rfl) (by kernel_rfl) ?_; simp only [List.take_succ_cons, List.take_zero, List.drop_succ_cons, List.drop_zero]; clear hs; intro w hs; (repeat ((first | ((with_reducible apply ldt hs.b0); exact rfl; exact rfl; exact rfl; exact rfl; kernel_rfl) | go_big_quiet_step (fail)); (try simp only [Act.put, List.setIfInBounds_toArray, List.set_cons_succ, List.set_cons_zero]))); refine wpQuiet_nil ?_)
    go_wp2_with (first | (go_at_call 52; refine (to52_yes (g := ⟨some ⟨b, off, none⟩, n, cR, aI, nI, cI, R, I, cy, cx, v1, v2, v3, v4, v5, v6, v7, v8⟩) (py := (y : Int) + 1) (px := x) hs (by (first | exact HG.out | exact HG.out.more | exact HG.out.more.more | exact HG.out.more.more.more | exact HG.out.more.more.more.more | exact HG.out.more.more.more.more.more | exact HG.out.more.more.more.more.more.more | exact HG.out.more.more.more.more.more.more.more | exact HG.out.more.more.more.more.more.more.more.more)) HF.out HP.out).mono ?_; clear hs; rintro e w ⟨rfl, hs⟩) | ((with_reducible refine isl ?_); first | ((with_reducible apply ld hs.b0); exact rfl; exact rfl; exact rfl; exact rfl; kernel_rfl) | ((with_reducible apply st hs.b0); exact rfl; exact rfl; exact rfl; exact rfl; exact rfl; exact rfl; kernel_rfl; exact rfl; clear hs; intro w hs) | ((with_reducible apply stc hs.b0); exact rfl; exact rfl; exact rfl; exact rfl; exact rfl; kernel_rfl; exact rfl; clear hs; intro w hs) | ((with_reducible refine wrap hs ?_); clear hs; intro w hs) | ((with_reducible refine wrapn hs ?_); clear hs; intro w hs) | ((with_reducible refine wrapd hs ?_); clear hs; intro w hs)))
    refine end_end0 rfl rfl ?_
    exact ⟨rfl, by refine sb_from ?_ hs; repeat constructor⟩

set_option maxHeartbeats 2000000 in
set_option maxRecDepth 20000 in
theorem cmd32 {a y x : Nat} {e2 : Bool} {y2 x2 : Nat} (hs : sat W (cel a 78 (akL g y x false 0) :: H) w) (hg : GS W H g) (hF : Fit g.gd n m) (hy : y < n) (hx : x < m) (ho : aft y x (goTo g.gd y x 7) = (y2, x2, e2)) :
    Calls Try.prog 32 #[.pointer (some ⟨a, 0, none⟩)] w fun e' w' => e' = .returned (.tuple #[]) ∧ sat W (cel a 78 (akL g y2 x2 e2 0) :: H) w' := by
  obtain ⟨⟨p1, p2⟩, hp⟩ : ∃ p, heldP g.gd (y : Int) 0 = p := ⟨_, rfl⟩
  have he : (p1, p2, false) = (y2, x2, e2) := by rw [← ho]; simp [goTo, aft, hp, hF.gn]
  cases he
  have HP := Lib.hid hp
  clear hp ho
  have hn := (hg.n_eq hF).1
  have h1 := hF.n1
  have h2 := hF.n12
  have h3 := hF.m1
  have h4 := hF.m600
  obtain ⟨b, off, b0, o0, c0, _, eb, hc0, _⟩ := hg.at_ hF hs.drop (y := 0) (by omega)
  have HC0 := Lib.hid hc0
  have HG := Lib.hid hg
  have HF := Lib.hid hF
  clear hc0 hg hF
  obtain ⟨aR, n', cR, aI, nI, cI, R, I, cy, cx, v1, v2, v3, v4, v5, v6, v7, v8⟩ := g
  obtain rfl : n = n' := hn.symm
  obtain rfl : aR = _ := eb
  have hy9 : (y : Int) < (n : Int) := by omega
  have hx9 : (x : Int) < (m : Int) := by omega
  clear hy hx
  go_enter Try.func32, Try.ntmps32
  go_wp2_with (first | (go_at_call 52; refine (to52_yes (g := ⟨some ⟨b, off, none⟩, n, cR, aI, nI, cI, R, I, cy, cx, v1, v2, v3, v4, v5, v6, v7, v8⟩) (py := y) (px := 0) hs (by (first | exact HG.out | exact HG.out.more | exact HG.out.more.more | exact HG.out.more.more.more | exact HG.out.more.more.more.more | exact HG.out.more.more.more.more.more | exact HG.out.more.more.more.more.more.more | exact HG.out.more.more.more.more.more.more.more | exact HG.out.more.more.more.more.more.more.more.more)) HF.out HP.out).mono ?_; clear hs; rintro e w ⟨rfl, hs⟩) | ((with_reducible refine isl ?_); first | ((with_reducible apply ld hs.b0); exact rfl; exact rfl; exact rfl; exact rfl; kernel_rfl) | ((with_reducible apply st hs.b0); exact rfl; exact rfl; exact rfl; exact rfl; exact rfl; exact rfl; kernel_rfl; exact rfl; clear hs; intro w hs) | ((with_reducible apply stc hs.b0); exact rfl; exact rfl; exact rfl; exact rfl; exact rfl; kernel_rfl; exact rfl; clear hs; intro w hs) | ((with_reducible refine wrap hs ?_); clear hs; intro w hs) | ((with_reducible refine wrapn hs ?_); clear hs; intro w hs) | ((with_reducible refine wrapd hs ?_); clear hs; intro w hs)))
  refine end_end0 rfl rfl ?_
  exact ⟨rfl, by refine sb_from ?_ hs; repeat constructor⟩

set_option maxHeartbeats 2000000 in
set_option maxRecDepth 20000 in
theorem cmd34 {a y x : Nat} {e2 : Bool} {y2 x2 : Nat} (hs : sat W (cel a 78 (akL g y x false 0) :: H) w) (hg : GS W H g) (hF : Fit g.gd n m) (hy : y < n) (hx : x < m) (ho : aft y x (goTo g.gd y x 9) = (y2, x2, e2)) :
    Calls Try.prog 34 #[.pointer (some ⟨a, 0, none⟩)] w fun e' w' => e' = .returned (.tuple #[]) ∧ sat W (cel a 78 (akL g y2 x2 e2 2) :: H) w' := by
  obtain ⟨⟨p1, p2⟩, hp⟩ : ∃ p, heldP g.gd 0 (x : Int) = p := ⟨_, rfl⟩
  have he : (p1, p2, false) = (y2, x2, e2) := by rw [← ho]; simp [goTo, aft, hp, hF.gn]
  cases he
  have HP := Lib.hid hp
  clear hp ho
  have hn := (hg.n_eq hF).1
  have h1 := hF.n1
  have h2 := hF.n12
  have h3 := hF.m1
  have h4 := hF.m600
  obtain ⟨b, off, b0, o0, c0, _, eb, hc0, _⟩ := hg.at_ hF hs.drop (y := 0) (by omega)
  have HC0 := Lib.hid hc0
  have HG := Lib.hid hg
  have HF := Lib.hid hF
  clear hc0 hg hF
  obtain ⟨aR, n', cR, aI, nI, cI, R, I, cy, cx, v1, v2, v3, v4, v5, v6, v7, v8⟩ := g
  obtain rfl : n = n' := hn.symm
  obtain rfl : aR = _ := eb
  have hy9 : (y : Int) < (n : Int) := by omega
  have hx9 : (x : Int) < (m : Int) := by omega
  clear hy hx
  go_enter Try.func34, Try.ntmps34
  go_wp2_with (first | (go_at_call 52; refine (to52_yes (g := ⟨some ⟨b, off, none⟩, n, cR, aI, nI, cI, R, I, cy, cx, v1, v2, v3, v4, v5, v6, v7, v8⟩) (py := 0) (px := x) hs (by (first | exact HG.out | exact HG.out.more | exact HG.out.more.more | exact HG.out.more.more.more | exact HG.out.more.more.more.more | exact HG.out.more.more.more.more.more | exact HG.out.more.more.more.more.more.more | exact HG.out.more.more.more.more.more.more.more | exact HG.out.more.more.more.more.more.more.more.more)) HF.out HP.out).mono ?_; clear hs; rintro e w ⟨rfl, hs⟩) | ((with_reducible refine isl ?_); first | ((with_reducible apply ld hs.b0); exact rfl; exact rfl; exact rfl; exact rfl; kernel_rfl) | ((with_reducible apply st hs.b0); exact rfl; exact rfl; exact rfl; exact rfl; exact rfl; exact rfl; kernel_rfl; exact rfl; clear hs; intro w hs) | ((with_reducible apply stc hs.b0); exact rfl; exact rfl; exact rfl; exact rfl; exact rfl; kernel_rfl; exact rfl; clear hs; intro w hs) | ((with_reducible refine wrap hs ?_); clear hs; intro w hs) | ((with_reducible refine wrapn hs ?_); clear hs; intro w hs) | ((with_reducible refine wrapd hs ?_); clear hs; intro w hs)))
  refine end_end0 rfl rfl ?_
  exact ⟨rfl, by refine sb_from ?_ hs; repeat constructor⟩

set_option maxHeartbeats 2000000 in
set_option maxRecDepth 20000 in
theorem cmd35 {a y x : Nat} {e2 : Bool} {y2 x2 : Nat} (hs : sat W (cel a 78 (akL g y x false 0) :: H) w) (hg : GS W H g) (hF : Fit g.gd n m) (hy : y < n) (hx : x < m) (ho : aft y x (goTo g.gd y x 10) = (y2, x2, e2)) :
    Calls Try.prog 35 #[.pointer (some ⟨a, 0, none⟩)] w fun e' w' => e' = .returned (.tuple #[]) ∧ sat W (cel a 78 (akL g y2 x2 e2 2) :: H) w' := by
  obtain ⟨⟨p1, p2⟩, hp⟩ : ∃ p, heldP g.gd ((n : Int) - 1) (x : Int) = p := ⟨_, rfl⟩
  have he : (p1, p2, false) = (y2, x2, e2) := by rw [← ho]; simp [goTo, aft, hp, hF.gn]
  cases he
  have HP := Lib.hid hp
  clear hp ho
  have hn := (hg.n_eq hF).1
  have h1 := hF.n1
  have h2 := hF.n12
  have h3 := hF.m1
  have h4 := hF.m600
  obtain ⟨b, off, b0, o0, c0, _, eb, hc0, _⟩ := hg.at_ hF hs.drop (y := 0) (by omega)
  have HC0 := Lib.hid hc0
  have HG := Lib.hid hg
  have HF := Lib.hid hF
  clear hc0 hg hF
  obtain ⟨aR, n', cR, aI, nI, cI, R, I, cy, cx, v1, v2, v3, v4, v5, v6, v7, v8⟩ := g
  obtain rfl : n = n' := hn.symm
  obtain rfl : aR = _ := eb
  have hy9 : (y : Int) < (n : Int) := by omega
  have hx9 : (x : Int) < (m : Int) := by omega
  clear hy hx
  go_enter Try.func35, Try.ntmps35
  go_upto_region 1 with (first | ((with_reducible refine isl ?_); first | ((with_reducible apply ld hs.b0); exact rfl; exact rfl; exact rfl; exact rfl; kernel_rfl) | ((with_reducible apply st hs.b0); exact rfl; exact rfl; exact rfl; exact rfl; exact rfl; exact rfl; kernel_rfl; exact rfl; clear hs; intro w hs) | ((with_reducible apply stc hs.b0); exact rfl; exact rfl; exact rfl; exact rfl; exact rfl; kernel_rfl; exact rfl; clear hs; intro w hs) | ((with_reducible refine wrap hs ?_); clear hs; intro w hs) | ((with_reducible refine wrapn hs ?_); clear hs; intro w hs) | ((with_reducible refine wrapd hs ?_); clear hs; intro w hs)))
  ((try simp only [Act.put, List.setIfInBounds_toArray, List.set_cons_succ, List.set_cons_zero]); refine region_tail 14 hs (by kernel_rfl) (by kernel_rfl) ?_; simp only [List.take_succ_cons, List.take_zero, List.drop_succ_cons, List.drop_zero]; clear hs; intro w hs; (repeat ((first | ((with_reducible apply ldt hs.b0); exact rfl; exact rfl; exact rfl; exact rfl; kernel_rfl) | go_big_quiet_step (fail)); (try simp only [Act.put, List.setIfInBounds_toArray, List.set_cons_succ, List.set_cons_zero]))); refine wpQuiet_nil ?_)
  go_wp2_with (first | (go_at_call 52; refine (to52_yes (g := ⟨some ⟨b, off, none⟩, n, cR, aI, nI, cI, R, I, cy, cx, v1, v2, v3, v4, v5, v6, v7, v8⟩) (py := (n : Int) - 1) (px := x) hs (by (first | exact HG.out | exact HG.out.more | exact HG.out.more.more | exact HG.out.more.more.more | exact HG.out.more.more.more.more | exact HG.out.more.more.more.more.more | exact HG.out.more.more.more.more.more.more | exact HG.out.more.more.more.more.more.more.more | exact HG.out.more.more.more.more.more.more.more.more)) HF.out HP.out).mono ?_; clear hs; rintro e w ⟨rfl, hs⟩) | ((with_reducible refine isl ?_); first | ((with_reducible apply ld hs.b0); exact rfl; exact rfl; exact rfl; exact rfl; kernel_rfl) | ((with_reducible apply st hs.b0); exact rfl; exact rfl; exact rfl; exact rfl; exact rfl; exact rfl; kernel_rfl; exact rfl; clear hs; intro w hs) | ((with_reducible apply stc hs.b0); exact rfl; exact rfl; exact rfl; exact rfl; exact rfl; kernel_rfl; exact rfl; clear hs; intro w hs) | ((with_reducible refine wrap hs ?_); clear hs; intro w hs) | ((with_reducible refine wrapn hs ?_); clear hs; intro w hs) | ((with_reducible refine wrapd hs ?_); clear hs; intro w hs)))
  refine end_end0 rfl rfl ?_
  exact ⟨rfl, by refine sb_from ?_ hs; repeat constructor⟩

set_option maxHeartbeats 2000000 in
set_option maxRecDepth 20000 in
theorem cmd36 {a y x : Nat} {e2 : Bool} {y2 x2 : Nat} (hs : sat W (cel a 78 (akL g y x false 0) :: H) w) (hg : GS W H g) (hF : Fit g.gd n m) (hy : y < n) (hx : x < m) (ho : aft y x (goTo g.gd y x 11) = (y2, x2, e2)) :
    Calls Try.prog 36 #[.pointer (some ⟨a, 0, none⟩)] w fun e' w' => e' = .returned (.tuple #[]) ∧ sat W (cel a 78 (akL g y2 x2 e2 0) :: H) w' := by
  obtain ⟨⟨p1, p2⟩, hp⟩ : ∃ p, heldP g.gd g.gd.cy g.gd.cx = p := ⟨_, rfl⟩
  have he : (p1, p2, false) = (y2, x2, e2) := by rw [← ho]; simp [goTo, aft, hp, hF.gn]
  cases he
  have HP := Lib.hid hp
  clear hp ho
  have hn := (hg.n_eq hF).1
  have h1 := hF.n1
  have h2 := hF.n12
  have h3 := hF.m1
  have h4 := hF.m600
  obtain ⟨b, off, b0, o0, c0, _, eb, hc0, _⟩ := hg.at_ hF hs.drop (y := 0) (by omega)
  have HC0 := Lib.hid hc0
  have HG := Lib.hid hg
  have HF := Lib.hid hF
  clear hc0 hg hF
  obtain ⟨aR, n', cR, aI, nI, cI, R, I, cy, cx, v1, v2, v3, v4, v5, v6, v7, v8⟩ := g
  obtain rfl : n = n' := hn.symm
  obtain rfl : aR = _ := eb
  have hy9 : (y : Int) < (n : Int) := by omega
  have hx9 : (x : Int) < (m : Int) := by omega
  clear hy hx
  go_enter Try.func36, Try.ntmps36
  ((try simp only [Act.put, List.setIfInBounds_toArray, List.set_cons_succ, List.set_cons_zero]); refine region_tail 12 hs (by kernel_rfl) (by kernel_rfl) ?_; simp only [List.take_succ_cons, List.take_zero, List.drop_succ_cons, List.drop_zero]; clear hs; intro w hs; (repeat ((first | ((with_reducible apply ldt hs.b0); exact rfl; exact rfl; exact rfl; exact rfl; kernel_rfl) | go_big_quiet_step (fail)); (try simp only [Act.put, List.setIfInBounds_toArray, List.set_cons_succ, List.set_cons_zero]))); refine wpQuiet_nil ?_)
  go_wp2_with (first | (go_at_call 52; refine (to52_yes (g := ⟨some ⟨b, off, none⟩, n, cR, aI, nI, cI, R, I, cy, cx, v1, v2, v3, v4, v5, v6, v7, v8⟩) (py := cy) (px := cx) hs (by (first | exact HG.out | exact HG.out.more | exact HG.out.more.more | exact HG.out.more.more.more | exact HG.out.more.more.more.more | exact HG.out.more.more.more.more.more | exact HG.out.more.more.more.more.more.more | exact HG.out.more.more.more.more.more.more.more | exact HG.out.more.more.more.more.more.more.more.more)) HF.out HP.out).mono ?_; clear hs; rintro e w ⟨rfl, hs⟩) | ((with_reducible refine isl ?_); first | ((with_reducible apply ld hs.b0); exact rfl; exact rfl; exact rfl; exact rfl; kernel_rfl) | ((with_reducible apply st hs.b0); exact rfl; exact rfl; exact rfl; exact rfl; exact rfl; exact rfl; kernel_rfl; exact rfl; clear hs; intro w hs) | ((with_reducible apply stc hs.b0); exact rfl; exact rfl; exact rfl; exact rfl; exact rfl; kernel_rfl; exact rfl; clear hs; intro w hs) | ((with_reducible refine wrap hs ?_); clear hs; intro w hs) | ((with_reducible refine wrapn hs ?_); clear hs; intro w hs) | ((with_reducible refine wrapd hs ?_); clear hs; intro w hs)))
  refine end_end0 rfl rfl ?_
  exact ⟨rfl, by refine sb_from ?_ hs; repeat constructor⟩

set_option maxHeartbeats 2000000 in
set_option maxRecDepth 20000 in
theorem cmd37 {a y x : Nat} {e2 : Bool} {y2 x2 : Nat} (hs : sat W (cel a 78 (akL g y x false 0) :: H) w) (hg : GS W H g) (hF : Fit g.gd n m) (hy : y < n) (hx : x < m) (ho : aft y x (goTo g.gd y x 12) = (y2, x2, e2)) :
    Calls Try.prog 37 #[.pointer (some ⟨a, 0, none⟩)] w fun e' w' => e' = .returned (.tuple #[]) ∧ sat W (cel a 78 (akL g y2 x2 e2 0) :: H) w' := by
  have he : (y, x, false) = (y2, x2, e2) := by rw [← ho]; simp [goTo, aft]
  cases he
  clear ho
  obtain ⟨aR, n', cR, aI, nI, cI, R, I, cy, cx, v1, v2, v3, v4, v5, v6, v7, v8⟩ := g
  go_enter Try.func37, Try.ntmps37
  go_wp2_with (first | ((with_reducible refine isl ?_); first | ((with_reducible apply ld hs.b0); exact rfl; exact rfl; exact rfl; exact rfl; kernel_rfl) | ((with_reducible apply st hs.b0); exact rfl; exact rfl; exact rfl; exact rfl; exact rfl; exact rfl; kernel_rfl; exact rfl; clear hs; intro w hs) | ((with_reducible apply stc hs.b0); exact rfl; exact rfl; exact rfl; exact rfl; exact rfl; kernel_rfl; exact rfl; clear hs; intro w hs) | ((with_reducible refine wrap hs ?_); clear hs; intro w hs) | ((with_reducible refine wrapn hs ?_); clear hs; intro w hs) | ((with_reducible refine wrapd hs ?_); clear hs; intro w hs)))
  refine end_end0 rfl rfl ?_
  exact ⟨rfl, by refine sb_from ?_ hs; repeat constructor⟩

set_option maxHeartbeats 2000000 in
set_option maxRecDepth 20000 in
theorem cmd38 {a y x : Nat} {e2 : Bool} {y2 x2 : Nat} (hs : sat W (cel a 78 (akL g y x false 0) :: H) w) (hg : GS W H g) (hF : Fit g.gd n m) (hy : y < n) (hx : x < m) (ho : aft y x (goTo g.gd y x 13) = (y2, x2, e2)) :
    Calls Try.prog 38 #[.pointer (some ⟨a, 0, none⟩)] w fun e' w' => e' = .returned (.tuple #[]) ∧ sat W (cel a 78 (akL g y2 x2 e2 1) :: H) w' := by
  have he : (y, x, false) = (y2, x2, e2) := by rw [← ho]; simp [goTo, aft]
  cases he
  clear ho
  obtain ⟨aR, n', cR, aI, nI, cI, R, I, cy, cx, v1, v2, v3, v4, v5, v6, v7, v8⟩ := g
  go_enter Try.func38, Try.ntmps38
  go_wp2_with (first | ((with_reducible refine isl ?_); first | ((with_reducible apply ld hs.b0); exact rfl; exact rfl; exact rfl; exact rfl; kernel_rfl) | ((with_reducible apply st hs.b0); exact rfl; exact rfl; exact rfl; exact rfl; exact rfl; exact rfl; kernel_rfl; exact rfl; clear hs; intro w hs) | ((with_reducible apply stc hs.b0); exact rfl; exact rfl; exact rfl; exact rfl; exact rfl; kernel_rfl; exact rfl; clear hs; intro w hs) | ((with_reducible refine wrap hs ?_); clear hs; intro w hs) | ((with_reducible refine wrapn hs ?_); clear hs; intro w hs) | ((with_reducible refine wrapd hs ?_); clear hs; intro w hs)))
  refine end_end0 rfl rfl ?_
  exact ⟨rfl, by refine sb_from ?_ hs; repeat constructor⟩

set_option maxHeartbeats 2000000 in
set_option maxRecDepth 20000 in
theorem cmd39 {a y x : Nat} {e2 : Bool} {y2 x2 : Nat} (hs : sat W (cel a 78 (akL g y x false 0) :: H) w) (hg : GS W H g) (hF : Fit g.gd n m) (hy : y < n) (hx : x < m) (ho : aft y x (goTo g.gd y x 14) = (y2, x2, e2)) :
    Calls Try.prog 39 #[.pointer (some ⟨a, 0, none⟩)] w fun e' w' => e' = .returned (.tuple #[]) ∧ sat W (cel a 78 (akL g y2 x2 e2 2) :: H) w' := by
  have he : (y, x, false) = (y2, x2, e2) := by rw [← ho]; simp [goTo, aft]
  cases he
  clear ho
  obtain ⟨aR, n', cR, aI, nI, cI, R, I, cy, cx, v1, v2, v3, v4, v5, v6, v7, v8⟩ := g
  go_enter Try.func39, Try.ntmps39
  go_wp2_with (first | ((with_reducible refine isl ?_); first | ((with_reducible apply ld hs.b0); exact rfl; exact rfl; exact rfl; exact rfl; kernel_rfl) | ((with_reducible apply st hs.b0); exact rfl; exact rfl; exact rfl; exact rfl; exact rfl; exact rfl; kernel_rfl; exact rfl; clear hs; intro w hs) | ((with_reducible apply stc hs.b0); exact rfl; exact rfl; exact rfl; exact rfl; exact rfl; kernel_rfl; exact rfl; clear hs; intro w hs) | ((with_reducible refine wrap hs ?_); clear hs; intro w hs) | ((with_reducible refine wrapn hs ?_); clear hs; intro w hs) | ((with_reducible refine wrapd hs ?_); clear hs; intro w hs)))
  refine end_end0 rfl rfl ?_
  exact ⟨rfl, by refine sb_from ?_ hs; repeat constructor⟩
end Go.Proofs.Ytcheljogpffabaa
