/- Law 21: the document's review: a place put, held; the cell's size. -/
import Derived.Test.YtcheljogpffabaaSf
import Derived.Test.YtcheljogpffabaaR18
namespace Go.Proofs.Ytcheljogpffabaa
open Go.RowKit Go.Mem Go.Words Go.Deep Go.Rev
variable {W w : World} {H : List HProp} {g : Gm} {n m : Nat}
theorem row40 : rowTy Try.prog 40 3 = true := by kernel_rfl
attribute [local irreducible] rowTy oneTy World.setCell World.setCells World.alloc World.drew World.drewN Calls sat cel own blk old wpQuiet wpList tx onP
theorem within51 {p : Int} {k y : Nat} (h : clampN p k = y) (hk : 1 ≤ k) (hs : sat W H w) : Calls Try.prog 51 #[.int .i64 p, .int .i64 ((k : Int) - 1)] w fun e w' => e = .returned (.int .i64 y) ∧ sat W H w' := by
  unfold clampN at h
  by_cases h1 : p < 0
  · have e : (0 : Int) = (y : Int) := by omega
    rw [← e]
    go_enter Try.func51, Try.ntmps51
    go_wp2
    go_ret
    exact ⟨rfl, hs⟩
  · by_cases h2 : (k : Int) - 1 < p
    · have e : (k : Int) - 1 = (y : Int) := by omega
      rw [← e]
      clear h e
      go_enter Try.func51, Try.ntmps51
      go_wp2
      go_ret
      exact ⟨rfl, hs⟩
    · have e : p = (y : Int) := by omega
      rw [← e]
      clear h e
      go_enter Try.func51, Try.ntmps51
      go_wp2
      go_ret
      exact ⟨rfl, hs⟩
set_option maxHeartbeats 2000000 in
set_option maxRecDepth 20000 in
theorem rsize43 {a y x : Nat} {id : Int} {r : Nat} (hs : sat W (cel a 40 [.int .i64 id, .int .i64 y, .int .i64 x] :: H) w) (hg : GS W H g) (hF : Fit g.gd n m) (hy : y < n) (hx : x < m) (hr : sizeP g.gd y x = r) :
    Calls Try.prog 43 #[.pointer (some ⟨a, 0, none⟩), .agg (gV g).toArray] w fun e' w' => e' = .returned (.int .i64 r) ∧ sat W (cel a 40 [.int .i64 id, .int .i64 y, .int .i64 x] :: H) w' := by
  unfold sizeP at hr
  rw [hF.gm] at hr
  have hn := (hg.n_eq hF).1
  have h2 := hF.n12
  have h4 := hF.m600
  obtain ⟨b, off, bq, oq, cq, _, eb, hc, hwd, _⟩ := hg.at_ hF hs.drop hy
  have HC := Lib.hid hc
  have HW1 := Lib.hid (hwd x hx)
  generalize g.gd.wd y x = wd1 at HW1 hr
  obtain ⟨x', hx'⟩ : ∃ x', x + 1 = x' := ⟨_, rfl⟩
  rw [hx'] at hr
  have HW2 := Lib.hid (hwd x')
  generalize g.gd.wd y x' = wd2 at HW2 hr
  have hy9 : (y : Int) < (n : Int) := by omega
  have hx9 : (x : Int) < (m : Int) := by omega
  have HR := Lib.hid hr
  clear hr hc hwd hg hF
  obtain ⟨aR, n', cR, aI, nI, cI, R, I, cy, cx, v1, v2, v3, v4, v5, v6, v7, v8⟩ := g
  obtain rfl : n = n' := hn.symm
  obtain rfl : aR = _ := eb
  by_cases hw1 : wd1 = 1
  · subst hw1
    by_cases hxm : x' < m
    · have HW3 := Lib.hid (HW2.out hxm)
      have e1 : (x : Int) + 1 = (x' : Int) := by omega
      have hxm3 : (x' : Int) < (m : Int) := by omega
      by_cases hw2 : wd2 = 2
      · subst hw2
        obtain rfl : r = 2 := by rw [← HR.out]; simp [hxm]
        go_enter Try.func43, Try.ntmps43
        go_upto_region 1 with fail
        have hs1 := hs.made (T := 34) (l := gV ⟨some ⟨b, off, none⟩, n, cR, aI, nI, cI, R, I, cy, cx, v1, v2, v3, v4, v5, v6, v7, v8⟩)
        clear hs
        have hs := hs1
        clear hs1
        generalize World.alloc w _ = w1 at hs ⊢
        generalize w.heap.size = zg at hs ⊢
        go_wp2_with (first | (apply ldc; exact rfl; exact rfl; exact rfl; (first | exact HC.out _ (hs.dropN 0) | exact HC.out _ (hs.dropN 1) | exact HC.out _ (hs.dropN 2) | exact HC.out _ (hs.dropN 3) | exact HC.out _ (hs.dropN 4) | exact HC.out _ (hs.dropN 5) | exact HC.out _ (hs.dropN 6) | exact HC.out _ (hs.dropN 7)); exact one57) | (apply ldc; exact rfl; exact rfl; exact rfl; (first | exact HW1.out _ (hs.dropN 0) | exact HW1.out _ (hs.dropN 1) | exact HW1.out _ (hs.dropN 2) | exact HW1.out _ (hs.dropN 3) | exact HW1.out _ (hs.dropN 4) | exact HW1.out _ (hs.dropN 5) | exact HW1.out _ (hs.dropN 6) | exact HW1.out _ (hs.dropN 7)); exact one5) | (apply ldc; exact rfl; exact rfl; exact rfl; (first | exact HW3.out _ (hs.dropN 0) | exact HW3.out _ (hs.dropN 1) | exact HW3.out _ (hs.dropN 2) | exact HW3.out _ (hs.dropN 3) | exact HW3.out _ (hs.dropN 4) | exact HW3.out _ (hs.dropN 5) | exact HW3.out _ (hs.dropN 6) | exact HW3.out _ (hs.dropN 7)); exact one5) | ((try simp only [Act.put, List.setIfInBounds_toArray, List.set_cons_succ, List.set_cons_zero]); refine region_sat hs (by kernel_rfl) (by kernel_rfl) ?_; intro X f hne hf hcl; (repeat ((first | (apply ldcq; exact rfl; exact rfl; exact rfl; (first | exact fun y => HC.out _ ((hf y).dropN 0) | exact fun y => HC.out _ ((hf y).dropN 1) | exact fun y => HC.out _ ((hf y).dropN 2) | exact fun y => HC.out _ ((hf y).dropN 3) | exact fun y => HC.out _ ((hf y).dropN 4) | exact fun y => HC.out _ ((hf y).dropN 5) | exact fun y => HC.out _ ((hf y).dropN 6) | exact fun y => HC.out _ ((hf y).dropN 7)); exact one57) | ((with_reducible apply ldqx); exact rfl; exact rfl; exact rfl; (first | exact fun x => (hf x).b0 | exact fun x => (hf x).b1); exact rfl; kernel_rfl) | go_big_quiet_step (fail)); (try simp only [Act.put, List.setIfInBounds_toArray, List.set_cons_succ, List.set_cons_zero]))); refine wpQuiet_nil ?_; clear hcl hf hne hs f X; intro w hs) | ((with_reducible refine isl ?_); first | ((with_reducible apply ldx); exact rfl; exact rfl; exact rfl; (first | exact hs.b0 | exact hs.b1); exact rfl; kernel_rfl) | ((with_reducible apply stx); exact rfl; exact rfl; exact rfl; (first | exact hs.b0 | exact hs.b1); exact rfl; exact rfl; exact rfl; kernel_rfl; exact rfl; clear hs; intro w hs) | ((with_reducible apply stcx); exact rfl; exact rfl; exact rfl; (first | exact hs.b0 | exact hs.b1); exact rfl; exact rfl; kernel_rfl; exact rfl; clear hs; intro w hs) | ((with_reducible refine wrap hs ?_); clear hs; intro w hs) | ((with_reducible refine wrapn hs ?_); clear hs; intro w hs) | ((with_reducible refine wrapd hs ?_); clear hs; intro w hs)))
        go_ret
        exact ⟨rfl, hs.drop⟩
      · obtain rfl : r = 1 := by rw [← HR.out]; simp [hw2]
        go_enter Try.func43, Try.ntmps43
        go_upto_region 1 with fail
        have hs1 := hs.made (T := 34) (l := gV ⟨some ⟨b, off, none⟩, n, cR, aI, nI, cI, R, I, cy, cx, v1, v2, v3, v4, v5, v6, v7, v8⟩)
        clear hs
        have hs := hs1
        clear hs1
        generalize World.alloc w _ = w1 at hs ⊢
        generalize w.heap.size = zg at hs ⊢
        go_wp2_with (first | (apply ldc; exact rfl; exact rfl; exact rfl; (first | exact HC.out _ (hs.dropN 0) | exact HC.out _ (hs.dropN 1) | exact HC.out _ (hs.dropN 2) | exact HC.out _ (hs.dropN 3) | exact HC.out _ (hs.dropN 4) | exact HC.out _ (hs.dropN 5) | exact HC.out _ (hs.dropN 6) | exact HC.out _ (hs.dropN 7)); exact one57) | (apply ldc; exact rfl; exact rfl; exact rfl; (first | exact HW1.out _ (hs.dropN 0) | exact HW1.out _ (hs.dropN 1) | exact HW1.out _ (hs.dropN 2) | exact HW1.out _ (hs.dropN 3) | exact HW1.out _ (hs.dropN 4) | exact HW1.out _ (hs.dropN 5) | exact HW1.out _ (hs.dropN 6) | exact HW1.out _ (hs.dropN 7)); exact one5) | (apply ldc; exact rfl; exact rfl; exact rfl; (first | exact HW3.out _ (hs.dropN 0) | exact HW3.out _ (hs.dropN 1) | exact HW3.out _ (hs.dropN 2) | exact HW3.out _ (hs.dropN 3) | exact HW3.out _ (hs.dropN 4) | exact HW3.out _ (hs.dropN 5) | exact HW3.out _ (hs.dropN 6) | exact HW3.out _ (hs.dropN 7)); exact one5) | ((try simp only [Act.put, List.setIfInBounds_toArray, List.set_cons_succ, List.set_cons_zero]); refine region_sat hs (by kernel_rfl) (by kernel_rfl) ?_; intro X f hne hf hcl; (repeat ((first | (apply ldcq; exact rfl; exact rfl; exact rfl; (first | exact fun y => HC.out _ ((hf y).dropN 0) | exact fun y => HC.out _ ((hf y).dropN 1) | exact fun y => HC.out _ ((hf y).dropN 2) | exact fun y => HC.out _ ((hf y).dropN 3) | exact fun y => HC.out _ ((hf y).dropN 4) | exact fun y => HC.out _ ((hf y).dropN 5) | exact fun y => HC.out _ ((hf y).dropN 6) | exact fun y => HC.out _ ((hf y).dropN 7)); exact one57) | ((with_reducible apply ldqx); exact rfl; exact rfl; exact rfl; (first | exact fun x => (hf x).b0 | exact fun x => (hf x).b1); exact rfl; kernel_rfl) | go_big_quiet_step (fail)); (try simp only [Act.put, List.setIfInBounds_toArray, List.set_cons_succ, List.set_cons_zero]))); refine wpQuiet_nil ?_; clear hcl hf hne hs f X; intro w hs) | ((with_reducible refine isl ?_); first | ((with_reducible apply ldx); exact rfl; exact rfl; exact rfl; (first | exact hs.b0 | exact hs.b1); exact rfl; kernel_rfl) | ((with_reducible apply stx); exact rfl; exact rfl; exact rfl; (first | exact hs.b0 | exact hs.b1); exact rfl; exact rfl; exact rfl; kernel_rfl; exact rfl; clear hs; intro w hs) | ((with_reducible apply stcx); exact rfl; exact rfl; exact rfl; (first | exact hs.b0 | exact hs.b1); exact rfl; exact rfl; kernel_rfl; exact rfl; clear hs; intro w hs) | ((with_reducible refine wrap hs ?_); clear hs; intro w hs) | ((with_reducible refine wrapn hs ?_); clear hs; intro w hs) | ((with_reducible refine wrapd hs ?_); clear hs; intro w hs)))
        go_ret
        exact ⟨rfl, hs.drop⟩
    · have e1 : (x : Int) + 1 = (x' : Int) := by omega
      have hxm2 : ¬ (x' : Int) < (m : Int) := by omega
      obtain rfl : r = 1 := by rw [← HR.out]; simp [hxm]
      go_enter Try.func43, Try.ntmps43
      go_upto_region 1 with fail
      have hs1 := hs.made (T := 34) (l := gV ⟨some ⟨b, off, none⟩, n, cR, aI, nI, cI, R, I, cy, cx, v1, v2, v3, v4, v5, v6, v7, v8⟩)
      clear hs
      have hs := hs1
      clear hs1
      generalize World.alloc w _ = w1 at hs ⊢
      generalize w.heap.size = zg at hs ⊢
      go_wp2_with (first | (apply ldc; exact rfl; exact rfl; exact rfl; (first | exact HC.out _ (hs.dropN 0) | exact HC.out _ (hs.dropN 1) | exact HC.out _ (hs.dropN 2) | exact HC.out _ (hs.dropN 3) | exact HC.out _ (hs.dropN 4) | exact HC.out _ (hs.dropN 5) | exact HC.out _ (hs.dropN 6) | exact HC.out _ (hs.dropN 7)); exact one57) | (apply ldc; exact rfl; exact rfl; exact rfl; (first | exact HW1.out _ (hs.dropN 0) | exact HW1.out _ (hs.dropN 1) | exact HW1.out _ (hs.dropN 2) | exact HW1.out _ (hs.dropN 3) | exact HW1.out _ (hs.dropN 4) | exact HW1.out _ (hs.dropN 5) | exact HW1.out _ (hs.dropN 6) | exact HW1.out _ (hs.dropN 7)); exact one5) | (apply ldc; exact rfl; exact rfl; exact rfl; (first | exact HW3.out _ (hs.dropN 0) | exact HW3.out _ (hs.dropN 1) | exact HW3.out _ (hs.dropN 2) | exact HW3.out _ (hs.dropN 3) | exact HW3.out _ (hs.dropN 4) | exact HW3.out _ (hs.dropN 5) | exact HW3.out _ (hs.dropN 6) | exact HW3.out _ (hs.dropN 7)); exact one5) | ((try simp only [Act.put, List.setIfInBounds_toArray, List.set_cons_succ, List.set_cons_zero]); refine region_sat hs (by kernel_rfl) (by kernel_rfl) ?_; intro X f hne hf hcl; (repeat ((first | (apply ldcq; exact rfl; exact rfl; exact rfl; (first | exact fun y => HC.out _ ((hf y).dropN 0) | exact fun y => HC.out _ ((hf y).dropN 1) | exact fun y => HC.out _ ((hf y).dropN 2) | exact fun y => HC.out _ ((hf y).dropN 3) | exact fun y => HC.out _ ((hf y).dropN 4) | exact fun y => HC.out _ ((hf y).dropN 5) | exact fun y => HC.out _ ((hf y).dropN 6) | exact fun y => HC.out _ ((hf y).dropN 7)); exact one57) | ((with_reducible apply ldqx); exact rfl; exact rfl; exact rfl; (first | exact fun x => (hf x).b0 | exact fun x => (hf x).b1); exact rfl; kernel_rfl) | go_big_quiet_step (fail)); (try simp only [Act.put, List.setIfInBounds_toArray, List.set_cons_succ, List.set_cons_zero]))); refine wpQuiet_nil ?_; clear hcl hf hne hs f X; intro w hs) | ((with_reducible refine isl ?_); first | ((with_reducible apply ldx); exact rfl; exact rfl; exact rfl; (first | exact hs.b0 | exact hs.b1); exact rfl; kernel_rfl) | ((with_reducible apply stx); exact rfl; exact rfl; exact rfl; (first | exact hs.b0 | exact hs.b1); exact rfl; exact rfl; exact rfl; kernel_rfl; exact rfl; clear hs; intro w hs) | ((with_reducible apply stcx); exact rfl; exact rfl; exact rfl; (first | exact hs.b0 | exact hs.b1); exact rfl; exact rfl; kernel_rfl; exact rfl; clear hs; intro w hs) | ((with_reducible refine wrap hs ?_); clear hs; intro w hs) | ((with_reducible refine wrapn hs ?_); clear hs; intro w hs) | ((with_reducible refine wrapd hs ?_); clear hs; intro w hs)))
      go_ret
      exact ⟨rfl, hs.drop⟩
  · obtain rfl : r = 1 := by rw [← HR.out]; simp [hw1]
    go_enter Try.func43, Try.ntmps43
    go_upto_region 1 with fail
    have hs1 := hs.made (T := 34) (l := gV ⟨some ⟨b, off, none⟩, n, cR, aI, nI, cI, R, I, cy, cx, v1, v2, v3, v4, v5, v6, v7, v8⟩)
    clear hs
    have hs := hs1
    clear hs1
    generalize World.alloc w _ = w1 at hs ⊢
    generalize w.heap.size = zg at hs ⊢
    go_wp2_with (first | (apply ldc; exact rfl; exact rfl; exact rfl; (first | exact HC.out _ (hs.dropN 0) | exact HC.out _ (hs.dropN 1) | exact HC.out _ (hs.dropN 2) | exact HC.out _ (hs.dropN 3) | exact HC.out _ (hs.dropN 4) | exact HC.out _ (hs.dropN 5) | exact HC.out _ (hs.dropN 6) | exact HC.out _ (hs.dropN 7)); exact one57) | (apply ldc; exact rfl; exact rfl; exact rfl; (first | exact HW1.out _ (hs.dropN 0) | exact HW1.out _ (hs.dropN 1) | exact HW1.out _ (hs.dropN 2) | exact HW1.out _ (hs.dropN 3) | exact HW1.out _ (hs.dropN 4) | exact HW1.out _ (hs.dropN 5) | exact HW1.out _ (hs.dropN 6) | exact HW1.out _ (hs.dropN 7)); exact one5) | (apply ldc; exact rfl; exact rfl; exact rfl; (first | exact HW3.out _ (hs.dropN 0) | exact HW3.out _ (hs.dropN 1) | exact HW3.out _ (hs.dropN 2) | exact HW3.out _ (hs.dropN 3) | exact HW3.out _ (hs.dropN 4) | exact HW3.out _ (hs.dropN 5) | exact HW3.out _ (hs.dropN 6) | exact HW3.out _ (hs.dropN 7)); exact one5) | ((try simp only [Act.put, List.setIfInBounds_toArray, List.set_cons_succ, List.set_cons_zero]); refine region_sat hs (by kernel_rfl) (by kernel_rfl) ?_; intro X f hne hf hcl; (repeat ((first | (apply ldcq; exact rfl; exact rfl; exact rfl; (first | exact fun y => HC.out _ ((hf y).dropN 0) | exact fun y => HC.out _ ((hf y).dropN 1) | exact fun y => HC.out _ ((hf y).dropN 2) | exact fun y => HC.out _ ((hf y).dropN 3) | exact fun y => HC.out _ ((hf y).dropN 4) | exact fun y => HC.out _ ((hf y).dropN 5) | exact fun y => HC.out _ ((hf y).dropN 6) | exact fun y => HC.out _ ((hf y).dropN 7)); exact one57) | ((with_reducible apply ldqx); exact rfl; exact rfl; exact rfl; (first | exact fun x => (hf x).b0 | exact fun x => (hf x).b1); exact rfl; kernel_rfl) | go_big_quiet_step (fail)); (try simp only [Act.put, List.setIfInBounds_toArray, List.set_cons_succ, List.set_cons_zero]))); refine wpQuiet_nil ?_; clear hcl hf hne hs f X; intro w hs) | ((with_reducible refine isl ?_); first | ((with_reducible apply ldx); exact rfl; exact rfl; exact rfl; (first | exact hs.b0 | exact hs.b1); exact rfl; kernel_rfl) | ((with_reducible apply stx); exact rfl; exact rfl; exact rfl; (first | exact hs.b0 | exact hs.b1); exact rfl; exact rfl; exact rfl; kernel_rfl; exact rfl; clear hs; intro w hs) | ((with_reducible apply stcx); exact rfl; exact rfl; exact rfl; (first | exact hs.b0 | exact hs.b1); exact rfl; exact rfl; kernel_rfl; exact rfl; clear hs; intro w hs) | ((with_reducible refine wrap hs ?_); clear hs; intro w hs) | ((with_reducible refine wrapn hs ?_); clear hs; intro w hs) | ((with_reducible refine wrapd hs ?_); clear hs; intro w hs)))
    go_ret
    exact ⟨rfl, hs.drop⟩
set_option maxHeartbeats 2000000 in
set_option maxRecDepth 20000 in
theorem put25 {a y x : Nat} {p1 p2 p3 : Int} {py px : Int} (hs : sat W (cel a 40 [.int .i64 p1, .int .i64 p2, .int .i64 p3] :: H) w) (hg : GS W H g) (hF : Fit g.gd n m) (e : heldP g.gd py px = (y, x)) :
    Calls Try.prog 25 #[.pointer (some ⟨a, 0, none⟩), .agg (gV g).toArray, .int .i64 py, .int .i64 px] w fun e w' => e = .returned (.tuple #[]) ∧ sat W (cel a 40 [.int .i64 (g.gd.id y), .int .i64 y, .int .i64 x] :: H) w' := by
  have hn := hg.n_eq hF
  have h1 := hF.n1
  have h2 := hF.n12
  have h3 := hF.m1
  have h4 := hF.m600
  obtain ⟨y0, hy0⟩ : ∃ y0, clampN py n = y0 := ⟨_, rfl⟩
  obtain ⟨x0, hx0⟩ : ∃ x0, clampN px m = x0 := ⟨_, rfl⟩
  have hyl : y0 < n := by rw [← hy0]; exact clampN_lt _ h1
  have hxl : x0 < m := by rw [← hx0]; exact clampN_lt _ h3
  obtain ⟨b, off, b0, o0, c0, _, eb, hc0, _⟩ := hg.at_ hF hs.drop (y := 0) (by omega)
  obtain ⟨b', off', bq, oq, cq, _, eb', hc, hwd, _⟩ := hg.at_ hF hs.drop hyl
  obtain ⟨rfl, rfl⟩ : b = b' ∧ off = off' := by rw [eb] at eb'; cases eb'; exact ⟨rfl, rfl⟩
  have HC0 := Lib.hid hc0
  have HC := Lib.hid hc
  have hxy : heldX g.gd y0 x0 = x ∧ y0 = y := by
    unfold heldP at e
    rw [hF.gn, hF.gm, hy0, hx0] at e
    cases e
    exact ⟨rfl, rfl⟩
  obtain ⟨hxx, rfl⟩ := hxy
  obtain ⟨_, bi, oi, ebi, hci⟩ := hg.id hs.drop (y := y0) (by omega)
  have HCI := Lib.hid hci
  generalize g.gd.id y0 = idv at HCI ⊢
  unfold heldX at hxx
  have HW1 := Lib.hid (hwd x0 hxl)
  have HW2 := Lib.hid (hwd (x0 - 1) (by omega))
  generalize g.gd.wd y0 x0 = wd1 at HW1 hxx
  generalize g.gd.wd y0 (x0 - 1) = wd2 at HW2 hxx
  have HY0 := Lib.hid hy0
  have HX0 := Lib.hid hx0
  have hy9 : (y0 : Int) < (n : Int) := by omega
  have hx9 : (x0 : Int) < (m : Int) := by omega
  have h19 : (0 : Int) < (n : Int) := by omega
  clear hF hg e hc0 hc hci hwd eb' hy0 hx0
  obtain ⟨aR, n', cR, aI, nI, cI, R, I, cy, cx, v1, v2, v3, v4, v5, v6, v7, v8⟩ := g
  obtain ⟨hn1, hn2⟩ := hn
  obtain rfl : n = n' := hn1.symm
  obtain rfl : n = nI := hn2.symm
  obtain rfl : aR = _ := eb
  obtain rfl : aI = _ := ebi
  have HXX := Lib.hid hxx
  clear hxx
  go_enter Try.func25, Try.ntmps25
  go_upto_region 4 with (first | (apply ldc; exact rfl; exact rfl; exact rfl; (first | exact HC0.out _ (hs.dropN 0) | exact HC0.out _ (hs.dropN 1) | exact HC0.out _ (hs.dropN 2) | exact HC0.out _ (hs.dropN 3) | exact HC0.out _ (hs.dropN 4) | exact HC0.out _ (hs.dropN 5) | exact HC0.out _ (hs.dropN 6) | exact HC0.out _ (hs.dropN 7)); exact one57) | (go_at_call 51; refine (within51 HY0.out h1 hs).mono ?_; clear hs; rintro e w ⟨rfl, hs⟩) | (go_at_call 51; refine (within51 HX0.out h3 hs).mono ?_; clear hs; rintro e w ⟨rfl, hs⟩) | ((try simp only [Act.put, List.setIfInBounds_toArray, List.set_cons_succ, List.set_cons_zero]); refine region_sat hs (by kernel_rfl) (by kernel_rfl) ?_; intro X f hne hf hcl; (repeat ((first | (apply ldcq; exact rfl; exact rfl; exact rfl; (first | exact fun y => HC.out _ ((hf y).dropN 0) | exact fun y => HC.out _ ((hf y).dropN 1) | exact fun y => HC.out _ ((hf y).dropN 2) | exact fun y => HC.out _ ((hf y).dropN 3) | exact fun y => HC.out _ ((hf y).dropN 4) | exact fun y => HC.out _ ((hf y).dropN 5) | exact fun y => HC.out _ ((hf y).dropN 6) | exact fun y => HC.out _ ((hf y).dropN 7)); exact one57) | ((with_reducible apply ldqx); exact rfl; exact rfl; exact rfl; (first | exact fun x => (hf x).b0 | exact fun x => (hf x).b1 | exact fun x => (hf x).b2); exact rfl; kernel_rfl) | go_big_quiet_step (fail)); (try simp only [Act.put, List.setIfInBounds_toArray, List.set_cons_succ, List.set_cons_zero]))); refine wpQuiet_nil ?_; clear hcl hf hne hs f X; intro w hs) | ((with_reducible refine isl ?_); first | ((with_reducible apply ldx); exact rfl; exact rfl; exact rfl; (first | exact hs.b0 | exact hs.b1 | exact hs.b2); exact rfl; kernel_rfl) | ((with_reducible apply stx); exact rfl; exact rfl; exact rfl; (first | exact hs.b0 | exact hs.b1 | exact hs.b2); exact rfl; exact rfl; exact rfl; kernel_rfl; exact rfl; clear hs; intro w hs) | ((with_reducible apply stcx); exact rfl; exact rfl; exact rfl; (first | exact hs.b0 | exact hs.b1 | exact hs.b2); exact rfl; exact rfl; kernel_rfl; exact rfl; clear hs; intro w hs) | ((with_reducible refine wrap hs ?_); clear hs; (first | generalize w.heap.size = zg); intro w hs) | ((with_reducible refine wrap hs ?_); clear hs; intro w hs) | ((with_reducible refine wrapn hs ?_); clear hs; intro w hs) | ((with_reducible refine wrapd hs ?_); clear hs; intro w hs)))
  by_cases hx0 : 0 < x0
  · have hx1 : decide (0 < x0) = true := decide_eq_true hx0
    by_cases hw2 : wd1 = 2
    · subst hw2
      have e1 : (x0 : Int) - 1 = ((x0 - 1 : Nat) : Int) := by omega
      have h61 : ((x0 - 1 : Nat) : Int) < (m : Int) := by omega
      by_cases hw1 : wd2 = 1
      · subst hw1
        obtain rfl : x = x0 - 1 := by rw [← HXX.out]; simp [hx0]
        go_upto_region 6 with (first | (apply ldc; exact rfl; exact rfl; exact rfl; (first | exact HW1.out _ (hs.dropN 0) | exact HW1.out _ (hs.dropN 1) | exact HW1.out _ (hs.dropN 2) | exact HW1.out _ (hs.dropN 3) | exact HW1.out _ (hs.dropN 4) | exact HW1.out _ (hs.dropN 5) | exact HW1.out _ (hs.dropN 6) | exact HW1.out _ (hs.dropN 7)); exact one5) | (apply ldc; exact rfl; exact rfl; exact rfl; (first | exact HW2.out _ (hs.dropN 0) | exact HW2.out _ (hs.dropN 1) | exact HW2.out _ (hs.dropN 2) | exact HW2.out _ (hs.dropN 3) | exact HW2.out _ (hs.dropN 4) | exact HW2.out _ (hs.dropN 5) | exact HW2.out _ (hs.dropN 6) | exact HW2.out _ (hs.dropN 7)); exact one5) | ((with_reducible refine isl ?_); first | ((with_reducible apply ldx); exact rfl; exact rfl; exact rfl; (first | exact hs.b0 | exact hs.b1 | exact hs.b2); exact rfl; kernel_rfl) | ((with_reducible apply stx); exact rfl; exact rfl; exact rfl; (first | exact hs.b0 | exact hs.b1 | exact hs.b2); exact rfl; exact rfl; exact rfl; kernel_rfl; exact rfl; clear hs; intro w hs) | ((with_reducible apply stcx); exact rfl; exact rfl; exact rfl; (first | exact hs.b0 | exact hs.b1 | exact hs.b2); exact rfl; exact rfl; kernel_rfl; exact rfl; clear hs; intro w hs) | ((with_reducible refine wrap hs ?_); clear hs; intro w hs) | ((with_reducible refine wrapn hs ?_); clear hs; intro w hs) | ((with_reducible refine wrapd hs ?_); clear hs; intro w hs)))
        ((try simp only [Act.put, List.setIfInBounds_toArray, List.set_cons_succ, List.set_cons_zero]); refine region_tail 11 hs (by kernel_rfl) (by kernel_rfl) ?_; simp only [List.take_succ_cons, List.take_zero, List.drop_succ_cons, List.drop_zero]; clear hs; intro w hs; (repeat ((first | (first | (apply ldct; exact rfl; exact rfl; exact rfl; exact HCI.out _ (hs.dropN 0); exact one3') | (apply ldct; exact rfl; exact rfl; exact rfl; exact HCI.out _ (hs.dropN 1); exact one3') | (apply ldct; exact rfl; exact rfl; exact rfl; exact HCI.out _ (hs.dropN 2); exact one3') | (apply ldct; exact rfl; exact rfl; exact rfl; exact HCI.out _ (hs.dropN 3); exact one3')) | ((with_reducible apply ldt hs.b0); exact rfl; exact rfl; exact rfl; exact rfl; kernel_rfl) | ((with_reducible apply ldt hs.b1); exact rfl; exact rfl; exact rfl; exact rfl; kernel_rfl) | ((with_reducible apply ldt hs.b2); exact rfl; exact rfl; exact rfl; exact rfl; kernel_rfl) | go_big_quiet_step (fail)); (try simp only [Act.put, List.setIfInBounds_toArray, List.set_cons_succ, List.set_cons_zero]))); refine wpQuiet_nil ?_)
        go_wp2_with (first | ((with_reducible refine isl ?_); first | ((with_reducible apply ldx); exact rfl; exact rfl; exact rfl; (first | exact hs.b0 | exact hs.b1 | exact hs.b2); exact rfl; kernel_rfl) | ((with_reducible apply stx); exact rfl; exact rfl; exact rfl; (first | exact hs.b0 | exact hs.b1 | exact hs.b2); exact rfl; exact rfl; exact rfl; kernel_rfl; exact rfl; clear hs; intro w hs) | ((with_reducible apply stcx); exact rfl; exact rfl; exact rfl; (first | exact hs.b0 | exact hs.b1 | exact hs.b2); exact rfl; exact rfl; kernel_rfl; exact rfl; clear hs; intro w hs) | ((with_reducible refine wrap hs ?_); clear hs; intro w hs) | ((with_reducible refine wrapn hs ?_); clear hs; intro w hs) | ((with_reducible refine wrapd hs ?_); clear hs; intro w hs)))
        refine end_end0 rfl rfl ?_
        exact ⟨rfl, by refine sb_from ?_ hs; repeat constructor⟩
      · obtain rfl : x = x0 := by rw [← HXX.out]; simp [hw1]
        go_upto_region 6 with (first | (apply ldc; exact rfl; exact rfl; exact rfl; (first | exact HW1.out _ (hs.dropN 0) | exact HW1.out _ (hs.dropN 1) | exact HW1.out _ (hs.dropN 2) | exact HW1.out _ (hs.dropN 3) | exact HW1.out _ (hs.dropN 4) | exact HW1.out _ (hs.dropN 5) | exact HW1.out _ (hs.dropN 6) | exact HW1.out _ (hs.dropN 7)); exact one5) | (apply ldc; exact rfl; exact rfl; exact rfl; (first | exact HW2.out _ (hs.dropN 0) | exact HW2.out _ (hs.dropN 1) | exact HW2.out _ (hs.dropN 2) | exact HW2.out _ (hs.dropN 3) | exact HW2.out _ (hs.dropN 4) | exact HW2.out _ (hs.dropN 5) | exact HW2.out _ (hs.dropN 6) | exact HW2.out _ (hs.dropN 7)); exact one5) | ((with_reducible refine isl ?_); first | ((with_reducible apply ldx); exact rfl; exact rfl; exact rfl; (first | exact hs.b0 | exact hs.b1 | exact hs.b2); exact rfl; kernel_rfl) | ((with_reducible apply stx); exact rfl; exact rfl; exact rfl; (first | exact hs.b0 | exact hs.b1 | exact hs.b2); exact rfl; exact rfl; exact rfl; kernel_rfl; exact rfl; clear hs; intro w hs) | ((with_reducible apply stcx); exact rfl; exact rfl; exact rfl; (first | exact hs.b0 | exact hs.b1 | exact hs.b2); exact rfl; exact rfl; kernel_rfl; exact rfl; clear hs; intro w hs) | ((with_reducible refine wrap hs ?_); clear hs; intro w hs) | ((with_reducible refine wrapn hs ?_); clear hs; intro w hs) | ((with_reducible refine wrapd hs ?_); clear hs; intro w hs)))
        ((try simp only [Act.put, List.setIfInBounds_toArray, List.set_cons_succ, List.set_cons_zero]); refine region_tail 11 hs (by kernel_rfl) (by kernel_rfl) ?_; simp only [List.take_succ_cons, List.take_zero, List.drop_succ_cons, List.drop_zero]; clear hs; intro w hs; (repeat ((first | (first | (apply ldct; exact rfl; exact rfl; exact rfl; exact HCI.out _ (hs.dropN 0); exact one3') | (apply ldct; exact rfl; exact rfl; exact rfl; exact HCI.out _ (hs.dropN 1); exact one3') | (apply ldct; exact rfl; exact rfl; exact rfl; exact HCI.out _ (hs.dropN 2); exact one3') | (apply ldct; exact rfl; exact rfl; exact rfl; exact HCI.out _ (hs.dropN 3); exact one3')) | ((with_reducible apply ldt hs.b0); exact rfl; exact rfl; exact rfl; exact rfl; kernel_rfl) | ((with_reducible apply ldt hs.b1); exact rfl; exact rfl; exact rfl; exact rfl; kernel_rfl) | ((with_reducible apply ldt hs.b2); exact rfl; exact rfl; exact rfl; exact rfl; kernel_rfl) | go_big_quiet_step (fail)); (try simp only [Act.put, List.setIfInBounds_toArray, List.set_cons_succ, List.set_cons_zero]))); refine wpQuiet_nil ?_)
        go_wp2_with (first | ((with_reducible refine isl ?_); first | ((with_reducible apply ldx); exact rfl; exact rfl; exact rfl; (first | exact hs.b0 | exact hs.b1 | exact hs.b2); exact rfl; kernel_rfl) | ((with_reducible apply stx); exact rfl; exact rfl; exact rfl; (first | exact hs.b0 | exact hs.b1 | exact hs.b2); exact rfl; exact rfl; exact rfl; kernel_rfl; exact rfl; clear hs; intro w hs) | ((with_reducible apply stcx); exact rfl; exact rfl; exact rfl; (first | exact hs.b0 | exact hs.b1 | exact hs.b2); exact rfl; exact rfl; kernel_rfl; exact rfl; clear hs; intro w hs) | ((with_reducible refine wrap hs ?_); clear hs; intro w hs) | ((with_reducible refine wrapn hs ?_); clear hs; intro w hs) | ((with_reducible refine wrapd hs ?_); clear hs; intro w hs)))
        refine end_end0 rfl rfl ?_
        exact ⟨rfl, by refine sb_from ?_ hs; repeat constructor⟩
    · obtain rfl : x = x0 := by rw [← HXX.out]; simp [hw2]
      go_upto_region 6 with (first | (apply ldc; exact rfl; exact rfl; exact rfl; (first | exact HW1.out _ (hs.dropN 0) | exact HW1.out _ (hs.dropN 1) | exact HW1.out _ (hs.dropN 2) | exact HW1.out _ (hs.dropN 3) | exact HW1.out _ (hs.dropN 4) | exact HW1.out _ (hs.dropN 5) | exact HW1.out _ (hs.dropN 6) | exact HW1.out _ (hs.dropN 7)); exact one5) | (apply ldc; exact rfl; exact rfl; exact rfl; (first | exact HW2.out _ (hs.dropN 0) | exact HW2.out _ (hs.dropN 1) | exact HW2.out _ (hs.dropN 2) | exact HW2.out _ (hs.dropN 3) | exact HW2.out _ (hs.dropN 4) | exact HW2.out _ (hs.dropN 5) | exact HW2.out _ (hs.dropN 6) | exact HW2.out _ (hs.dropN 7)); exact one5) | ((with_reducible refine isl ?_); first | ((with_reducible apply ldx); exact rfl; exact rfl; exact rfl; (first | exact hs.b0 | exact hs.b1 | exact hs.b2); exact rfl; kernel_rfl) | ((with_reducible apply stx); exact rfl; exact rfl; exact rfl; (first | exact hs.b0 | exact hs.b1 | exact hs.b2); exact rfl; exact rfl; exact rfl; kernel_rfl; exact rfl; clear hs; intro w hs) | ((with_reducible apply stcx); exact rfl; exact rfl; exact rfl; (first | exact hs.b0 | exact hs.b1 | exact hs.b2); exact rfl; exact rfl; kernel_rfl; exact rfl; clear hs; intro w hs) | ((with_reducible refine wrap hs ?_); clear hs; intro w hs) | ((with_reducible refine wrapn hs ?_); clear hs; intro w hs) | ((with_reducible refine wrapd hs ?_); clear hs; intro w hs)))
      ((try simp only [Act.put, List.setIfInBounds_toArray, List.set_cons_succ, List.set_cons_zero]); refine region_tail 11 hs (by kernel_rfl) (by kernel_rfl) ?_; simp only [List.take_succ_cons, List.take_zero, List.drop_succ_cons, List.drop_zero]; clear hs; intro w hs; (repeat ((first | (first | (apply ldct; exact rfl; exact rfl; exact rfl; exact HCI.out _ (hs.dropN 0); exact one3') | (apply ldct; exact rfl; exact rfl; exact rfl; exact HCI.out _ (hs.dropN 1); exact one3') | (apply ldct; exact rfl; exact rfl; exact rfl; exact HCI.out _ (hs.dropN 2); exact one3') | (apply ldct; exact rfl; exact rfl; exact rfl; exact HCI.out _ (hs.dropN 3); exact one3')) | ((with_reducible apply ldt hs.b0); exact rfl; exact rfl; exact rfl; exact rfl; kernel_rfl) | ((with_reducible apply ldt hs.b1); exact rfl; exact rfl; exact rfl; exact rfl; kernel_rfl) | ((with_reducible apply ldt hs.b2); exact rfl; exact rfl; exact rfl; exact rfl; kernel_rfl) | go_big_quiet_step (fail)); (try simp only [Act.put, List.setIfInBounds_toArray, List.set_cons_succ, List.set_cons_zero]))); refine wpQuiet_nil ?_)
      go_wp2_with (first | ((with_reducible refine isl ?_); first | ((with_reducible apply ldx); exact rfl; exact rfl; exact rfl; (first | exact hs.b0 | exact hs.b1 | exact hs.b2); exact rfl; kernel_rfl) | ((with_reducible apply stx); exact rfl; exact rfl; exact rfl; (first | exact hs.b0 | exact hs.b1 | exact hs.b2); exact rfl; exact rfl; exact rfl; kernel_rfl; exact rfl; clear hs; intro w hs) | ((with_reducible apply stcx); exact rfl; exact rfl; exact rfl; (first | exact hs.b0 | exact hs.b1 | exact hs.b2); exact rfl; exact rfl; kernel_rfl; exact rfl; clear hs; intro w hs) | ((with_reducible refine wrap hs ?_); clear hs; intro w hs) | ((with_reducible refine wrapn hs ?_); clear hs; intro w hs) | ((with_reducible refine wrapd hs ?_); clear hs; intro w hs)))
      refine end_end0 rfl rfl ?_
      exact ⟨rfl, by refine sb_from ?_ hs; repeat constructor⟩
  · obtain rfl : x = x0 := by rw [← HXX.out]; simp [hx0]
    have hx1 : decide (0 < x) = false := decide_eq_false hx0
    have hx1' : ¬ (0 : Int) < (x : Int) := by omega
    go_upto_region 6 with (first | (apply ldc; exact rfl; exact rfl; exact rfl; (first | exact HW1.out _ (hs.dropN 0) | exact HW1.out _ (hs.dropN 1) | exact HW1.out _ (hs.dropN 2) | exact HW1.out _ (hs.dropN 3) | exact HW1.out _ (hs.dropN 4) | exact HW1.out _ (hs.dropN 5) | exact HW1.out _ (hs.dropN 6) | exact HW1.out _ (hs.dropN 7)); exact one5) | (apply ldc; exact rfl; exact rfl; exact rfl; (first | exact HW2.out _ (hs.dropN 0) | exact HW2.out _ (hs.dropN 1) | exact HW2.out _ (hs.dropN 2) | exact HW2.out _ (hs.dropN 3) | exact HW2.out _ (hs.dropN 4) | exact HW2.out _ (hs.dropN 5) | exact HW2.out _ (hs.dropN 6) | exact HW2.out _ (hs.dropN 7)); exact one5) | ((with_reducible refine isl ?_); first | ((with_reducible apply ldx); exact rfl; exact rfl; exact rfl; (first | exact hs.b0 | exact hs.b1 | exact hs.b2); exact rfl; kernel_rfl) | ((with_reducible apply stx); exact rfl; exact rfl; exact rfl; (first | exact hs.b0 | exact hs.b1 | exact hs.b2); exact rfl; exact rfl; exact rfl; kernel_rfl; exact rfl; clear hs; intro w hs) | ((with_reducible apply stcx); exact rfl; exact rfl; exact rfl; (first | exact hs.b0 | exact hs.b1 | exact hs.b2); exact rfl; exact rfl; kernel_rfl; exact rfl; clear hs; intro w hs) | ((with_reducible refine wrap hs ?_); clear hs; intro w hs) | ((with_reducible refine wrapn hs ?_); clear hs; intro w hs) | ((with_reducible refine wrapd hs ?_); clear hs; intro w hs)))
    ((try simp only [Act.put, List.setIfInBounds_toArray, List.set_cons_succ, List.set_cons_zero]); refine region_tail 11 hs (by kernel_rfl) (by kernel_rfl) ?_; simp only [List.take_succ_cons, List.take_zero, List.drop_succ_cons, List.drop_zero]; clear hs; intro w hs; (repeat ((first | (first | (apply ldct; exact rfl; exact rfl; exact rfl; exact HCI.out _ (hs.dropN 0); exact one3') | (apply ldct; exact rfl; exact rfl; exact rfl; exact HCI.out _ (hs.dropN 1); exact one3') | (apply ldct; exact rfl; exact rfl; exact rfl; exact HCI.out _ (hs.dropN 2); exact one3') | (apply ldct; exact rfl; exact rfl; exact rfl; exact HCI.out _ (hs.dropN 3); exact one3')) | ((with_reducible apply ldt hs.b0); exact rfl; exact rfl; exact rfl; exact rfl; kernel_rfl) | ((with_reducible apply ldt hs.b1); exact rfl; exact rfl; exact rfl; exact rfl; kernel_rfl) | ((with_reducible apply ldt hs.b2); exact rfl; exact rfl; exact rfl; exact rfl; kernel_rfl) | go_big_quiet_step (fail)); (try simp only [Act.put, List.setIfInBounds_toArray, List.set_cons_succ, List.set_cons_zero]))); refine wpQuiet_nil ?_)
    go_wp2_with (first | ((with_reducible refine isl ?_); first | ((with_reducible apply ldx); exact rfl; exact rfl; exact rfl; (first | exact hs.b0 | exact hs.b1 | exact hs.b2); exact rfl; kernel_rfl) | ((with_reducible apply stx); exact rfl; exact rfl; exact rfl; (first | exact hs.b0 | exact hs.b1 | exact hs.b2); exact rfl; exact rfl; exact rfl; kernel_rfl; exact rfl; clear hs; intro w hs) | ((with_reducible apply stcx); exact rfl; exact rfl; exact rfl; (first | exact hs.b0 | exact hs.b1 | exact hs.b2); exact rfl; exact rfl; kernel_rfl; exact rfl; clear hs; intro w hs) | ((with_reducible refine wrap hs ?_); clear hs; intro w hs) | ((with_reducible refine wrapn hs ?_); clear hs; intro w hs) | ((with_reducible refine wrapd hs ?_); clear hs; intro w hs)))
    refine end_end0 rfl rfl ?_
    exact ⟨rfl, by refine sb_from ?_ hs; repeat constructor⟩
end Go.Proofs.Ytcheljogpffabaa
namespace Go.Proofs.Ytcheljogpffabaa
open Go.RowKit Go.Mem Go.Words Go.Deep Go.Rev
section
variable {W w : World} {H : List HProp} {P : Program} {ops : Array Oper} {rest : List Oper} {o : Oper} {a : Act} {Q : Act → Prop} {b i : Nat} {T : TypeId} {l cs : List Value} {ty : TypeId}
theorem ldst {x : Operand} (n : Nat) (hs : sat W (cel b T l :: H) w) (ho : o.op = .load ty x) (hw : Region.wanted o (yielded ops a.tmps) = true) (hx : a.eval x = .pointer (some ⟨b, i, none⟩))
    (ht : rowTy P ty n = true) (hv : (l.drop i).take n = cs) (hn : cs.length = n) (h : wpQuiet P ops (fun w' => w' = w) Q rest (a.put o.dst (.agg cs.toArray))) : wpQuiet P ops (fun w' => w' = w) Q (o :: rest) a := by
  obtain ⟨d, h1, h2, h3⟩ := rowTy_parts ht
  refine BigFrame.wpQuiet_want hw fun K hK => ⟨_, ?_, hK _ h⟩
  rintro _ rfl
  unfold Oper.quietAt execOp
  simp only [ho, hx, Instr.loadAt, Instr.sureAddr, Sem.run_bind, Sem.run_pure, Result.andThen_ok, run_loadVar_mid _ b i ty cs d (hs.cel_range hv) h1 h2 (by rw [h3, hn])]
  exact ⟨rfl, rfl⟩
end
variable {W w : World} {H : List HProp} {g : Gm} {n m : Nat}
/-- What Hold has found among the ids from k on. -/
def fromK (ids : List Int) (id : Int) (py : Int) (k : Nat) : Int := match findId (ids.drop k) id with | some j => ((k + j : Nat) : Int) | none => py
theorem from_end {ids : List Int} {id py : Int} {k : Nat} (h : ids.length ≤ k) : fromK ids id py k = py := by
  unfold fromK
  rw [List.drop_eq_nil_of_le h]
  rfl
theorem from_yes {ids : List Int} {id py : Int} {k : Nat} (h : ids[k]? = some id) : fromK ids id py k = k := by
  have hk := (List.getElem?_eq_some_iff.1 h).1
  unfold fromK
  rw [List.drop_eq_getElem_cons hk, (List.getElem?_eq_some_iff.1 h).2]
  simp [findId]
theorem from_no {ids : List Int} {id py q : Int} {k : Nat} (h : ids[k]? = some q) (hq : q ≠ id) : fromK ids id py k = fromK ids id py (k + 1) := by
  have hk := (List.getElem?_eq_some_iff.1 h).1
  unfold fromK
  rw [List.drop_eq_getElem_cons hk, (List.getElem?_eq_some_iff.1 h).2]
  have e : findId (q :: ids.drop (k + 1)) id = (findId (ids.drop (k + 1)) id).map (· + 1) := by rw [findId, if_neg hq]
  rw [e]
  cases findId (ids.drop (k + 1)) id with
  | none => rfl
  | some j => simp; omega
theorem from_zero (g : Gd) (p : Pl) : holdP g p = heldP g (fromK g.ids p.id p.y 0) p.x := by
  unfold holdP fromK
  rw [List.drop_zero]
  cases findId g.ids p.id with
  | none => rfl
  | some j => simp
attribute [local irreducible] rowTy oneTy World.setCell World.setCells World.alloc World.drew World.drewN Calls sat cel own blk old wpQuiet wpList tx onP
set_option maxHeartbeats 4000000 in
set_option maxRecDepth 20000 in
theorem rhold13 {a : Nat} {p : Pl} (hs : sat W (cel a 40 (plL p) :: H) w) (hg : GS W H g) (hF : Fit g.gd n m) :
    Calls Try.prog 13 #[.pointer (some ⟨a, 0, none⟩), .agg (gV g).toArray] w fun e w' => e = .returned (.tuple #[]) ∧ sat W (cel a 40 (plL (holdV g.gd p)) :: H) w' := by
  have HG := Lib.hid hg
  have HF := Lib.hid hF
  have hn := hg.n_eq hF
  have h1 := hF.n1
  have h2 := hF.n12
  obtain ⟨_, bi, oi, ebi, _⟩ := hg.id hs.drop (y := 0) (by omega)
  have HIA : Hid (∀ u, u < n → ∀ w', sat W H w' → w'.cell? ⟨bi, oi + u, none⟩ = some (.int .i64 (g.gd.id u))) := Lib.hid (fun u hu w' hw => by
    obtain ⟨_, b2, o2, e2, hc⟩ := hg.id hs.drop (y := u) (by omega)
    rw [ebi] at e2
    cases e2
    exact hc w' hw)
  have HII : Hid (∀ u, u < n → g.gd.ids[u]? = some (g.gd.id u)) := Lib.hid (fun u hu => (hg.id hs.drop (y := u) (by omega)).1)
  have HIL := Lib.hid hF.ei
  obtain ⟨⟨y2, x2⟩, hp⟩ : ∃ q, holdP g.gd p = q := ⟨_, rfl⟩
  have hhv : holdV g.gd p = ⟨g.gd.id y2, y2, x2⟩ := by unfold holdV; rw [hp]
  rw [hhv]
  rw [from_zero] at hp
  have HP := Lib.hid hp
  clear hp hhv hg hF
  obtain ⟨pid, py, px⟩ := p
  obtain ⟨aR, n', cR, aI, nI, cI, R, I, cy, cx, v1, v2, v3, v4, v5, v6, v7, v8⟩ := g
  obtain ⟨hn1, hn2⟩ := hn
  obtain rfl : n = n' := hn1.symm
  obtain rfl : n = nI := hn2.symm
  obtain rfl : aI = _ := ebi
  obtain ⟨GD, hGD⟩ : ∃ q, Gm.gd ⟨aR, n, cR, some ⟨bi, oi, none⟩, n, cI, R, I, cy, cx, v1, v2, v3, v4, v5, v6, v7, v8⟩ = q := ⟨_, rfl⟩
  rw [hGD] at HIA HII HIL HP ⊢
  have HGD := Lib.hid hGD
  clear hGD
  simp only at HP
  go_enter Try.func13, Try.ntmps13
  go_wp2_with (first | ((with_reducible refine isl ?_); first | ((with_reducible apply ldx); exact rfl; exact rfl; exact rfl; (first | exact hs.b0 | exact hs.b1); exact rfl; kernel_rfl) | ((with_reducible apply stx); exact rfl; exact rfl; exact rfl; (first | exact hs.b0 | exact hs.b1); exact rfl; exact rfl; exact rfl; kernel_rfl; exact rfl; clear hs; intro w hs) | ((with_reducible apply stcx); exact rfl; exact rfl; exact rfl; (first | exact hs.b0 | exact hs.b1); exact rfl; exact rfl; kernel_rfl; exact rfl; clear hs; intro w hs) | ((with_reducible refine wrap hs ?_); clear hs; (first | generalize w.heap.size = zg); intro w hs) | ((with_reducible refine wrap hs ?_); clear hs; intro w hs) | ((with_reducible refine wrapn hs ?_); clear hs; intro w hs) | ((with_reducible refine wrapd hs ?_); clear hs; intro w hs)))
  go_loopw [4, 5] (fun yv iv wr => ∃ k : Nat, k ≤ n ∧ iv = .int .i64 ((k : Int) - 1) ∧ yv = .int .i64 (fromK GD.ids pid py k) ∧ sat W (cel zg 34 (gV ⟨aR, n, cR, some ⟨bi, oi, none⟩, n, cI, R, I, cy, cx, v1, v2, v3, v4, v5, v6, v7, v8⟩) :: cel a 40 [.int .i64 pid, .int .i64 py, .int .i64 px] :: H) wr) (fun _ iv _ => (intOf iv + 1).toNat)
  case atStart => exact ⟨n, Nat.le_refl _, by go_num, by rw [from_end (by rw [HIL.out]; exact Nat.le_refl _)], by refine sb_from ?_ hs; repeat constructor⟩
  case round =>
    clear hs
    obtain ⟨k, hk, rfl, rfl, hs⟩ := hrel
    cases k with
    | succ k =>
      have hk1 : ((k + 1 : Nat) : Int) - 1 = (k : Int) := by omega
      rw [hk1]
      have hk0 : 0 ≤ (k : Int) := by omega
      have hkn : (k : Int) < (n : Int) := by omega
      have hk12 : k ≤ 12 := by omega
      clear hk1
      have HIk := Lib.hid (HIA.out k (by omega))
      have hik := HII.out k (by omega)
      obtain ⟨idk, hidk⟩ : ∃ q, GD.id k = q := ⟨_, rfl⟩
      rw [hidk] at HIk hik
      obtain ⟨yy, hyy⟩ : ∃ q, fromK GD.ids pid py (k + 1) = q := ⟨_, rfl⟩
      rw [hyy]
      by_cases he : idk = pid
      · have HY : Hid (fromK GD.ids pid py k = (k : Int)) := Lib.hid (from_yes (by rw [hik, he]))
        have he2 : (idk == pid) = true := by simpa using he
        clear he hik hyy hidk
        go_wp2_with (first | ((try simp only [Act.put, List.setIfInBounds_toArray, List.set_cons_succ, List.set_cons_zero]); refine region_sat hs (by kernel_rfl) (by kernel_rfl) ?_; intro X f hne hf hcl; (repeat ((first | (apply ldcq; exact rfl; exact rfl; exact rfl; (first | exact fun y => HIk.out _ ((hf y).dropN 0) | exact fun y => HIk.out _ ((hf y).dropN 1) | exact fun y => HIk.out _ ((hf y).dropN 2) | exact fun y => HIk.out _ ((hf y).dropN 3) | exact fun y => HIk.out _ ((hf y).dropN 4) | exact fun y => HIk.out _ ((hf y).dropN 5) | exact fun y => HIk.out _ ((hf y).dropN 6) | exact fun y => HIk.out _ ((hf y).dropN 7)); exact one3') | ((with_reducible apply ldqx); exact rfl; exact rfl; exact rfl; (first | exact fun x => (hf x).b0 | exact fun x => (hf x).b1); exact rfl; kernel_rfl) | go_big_quiet_step (fail)); (try simp only [Act.put, List.setIfInBounds_toArray, List.set_cons_succ, List.set_cons_zero]))); refine wpQuiet_nil ?_; clear hcl hf hne hs f X; intro w hs) | ((with_reducible refine isl ?_); first | ((with_reducible apply ldx); exact rfl; exact rfl; exact rfl; (first | exact hs.b0 | exact hs.b1); exact rfl; kernel_rfl) | ((with_reducible apply stx); exact rfl; exact rfl; exact rfl; (first | exact hs.b0 | exact hs.b1); exact rfl; exact rfl; exact rfl; kernel_rfl; exact rfl; clear hs; intro w hs) | ((with_reducible apply stcx); exact rfl; exact rfl; exact rfl; (first | exact hs.b0 | exact hs.b1); exact rfl; exact rfl; kernel_rfl; exact rfl; clear hs; intro w hs) | ((with_reducible refine wrap hs ?_); clear hs; intro w hs) | ((with_reducible refine wrapn hs ?_); clear hs; intro w hs) | ((with_reducible refine wrapd hs ?_); clear hs; intro w hs)))
        go_roundw
        case rel => exact ⟨k, by omega, by go_num, by rw [HY.out], by refine sb_from ?_ hs; repeat constructor⟩
        case measure => simp [intOf]
      · have HY : Hid (fromK GD.ids pid py k = yy) := Lib.hid (by rw [← hyy]; exact from_no hik he)
        have he2 : (idk == pid) = false := by simpa using he
        clear he hik hyy hidk
        go_wp2_with (first | ((try simp only [Act.put, List.setIfInBounds_toArray, List.set_cons_succ, List.set_cons_zero]); refine region_sat hs (by kernel_rfl) (by kernel_rfl) ?_; intro X f hne hf hcl; (repeat ((first | (apply ldcq; exact rfl; exact rfl; exact rfl; (first | exact fun y => HIk.out _ ((hf y).dropN 0) | exact fun y => HIk.out _ ((hf y).dropN 1) | exact fun y => HIk.out _ ((hf y).dropN 2) | exact fun y => HIk.out _ ((hf y).dropN 3) | exact fun y => HIk.out _ ((hf y).dropN 4) | exact fun y => HIk.out _ ((hf y).dropN 5) | exact fun y => HIk.out _ ((hf y).dropN 6) | exact fun y => HIk.out _ ((hf y).dropN 7)); exact one3') | ((with_reducible apply ldqx); exact rfl; exact rfl; exact rfl; (first | exact fun x => (hf x).b0 | exact fun x => (hf x).b1); exact rfl; kernel_rfl) | go_big_quiet_step (fail)); (try simp only [Act.put, List.setIfInBounds_toArray, List.set_cons_succ, List.set_cons_zero]))); refine wpQuiet_nil ?_; clear hcl hf hne hs f X; intro w hs) | ((with_reducible refine isl ?_); first | ((with_reducible apply ldx); exact rfl; exact rfl; exact rfl; (first | exact hs.b0 | exact hs.b1); exact rfl; kernel_rfl) | ((with_reducible apply stx); exact rfl; exact rfl; exact rfl; (first | exact hs.b0 | exact hs.b1); exact rfl; exact rfl; exact rfl; kernel_rfl; exact rfl; clear hs; intro w hs) | ((with_reducible apply stcx); exact rfl; exact rfl; exact rfl; (first | exact hs.b0 | exact hs.b1); exact rfl; exact rfl; kernel_rfl; exact rfl; clear hs; intro w hs) | ((with_reducible refine wrap hs ?_); clear hs; intro w hs) | ((with_reducible refine wrapn hs ?_); clear hs; intro w hs) | ((with_reducible refine wrapd hs ?_); clear hs; intro w hs)))
        go_roundw
        case rel => exact ⟨k, by omega, by go_num, by rw [HY.out], by refine sb_from ?_ hs; repeat constructor⟩
        case measure => simp [intOf]
    | zero =>
      obtain ⟨yy, hyy⟩ : ∃ q, fromK GD.ids pid py 0 = q := ⟨_, rfl⟩
      rw [hyy]
      have HP2 : Hid (heldP (Gm.gd ⟨aR, n, cR, some ⟨bi, oi, none⟩, n, cI, R, I, cy, cx, v1, v2, v3, v4, v5, v6, v7, v8⟩) yy px = (y2, x2)) := Lib.hid (by rw [HGD.out, ← hyy]; exact HP.out)
      clear hyy
      go_upto_region 7 with (first | ((with_reducible refine isl ?_); first | ((with_reducible apply ldx); exact rfl; exact rfl; exact rfl; (first | exact hs.b0 | exact hs.b1); exact rfl; kernel_rfl) | ((with_reducible apply stx); exact rfl; exact rfl; exact rfl; (first | exact hs.b0 | exact hs.b1); exact rfl; exact rfl; exact rfl; kernel_rfl; exact rfl; clear hs; intro w hs) | ((with_reducible apply stcx); exact rfl; exact rfl; exact rfl; (first | exact hs.b0 | exact hs.b1); exact rfl; exact rfl; kernel_rfl; exact rfl; clear hs; intro w hs) | ((with_reducible refine wrap hs ?_); clear hs; intro w hs) | ((with_reducible refine wrapn hs ?_); clear hs; intro w hs) | ((with_reducible refine wrapd hs ?_); clear hs; intro w hs)))
      ((try simp only [Act.put, List.setIfInBounds_toArray, List.set_cons_succ, List.set_cons_zero]); refine region_tail 7 hs (by kernel_rfl) (by kernel_rfl) ?_; simp only [List.take_succ_cons, List.take_zero, List.drop_succ_cons, List.drop_zero]; clear hs; intro w hs; (repeat ((first | (first | (apply ldst 12 hs.b0; exact rfl; exact rfl; exact rfl; exact row34; exact rfl; exact rfl) | (apply ldst 12 hs.b1; exact rfl; exact rfl; exact rfl; exact row34; exact rfl; exact rfl) | (apply ldst 12 hs.b2; exact rfl; exact rfl; exact rfl; exact row34; exact rfl; exact rfl)) | ((with_reducible apply ldt hs.b0); exact rfl; exact rfl; exact rfl; exact rfl; kernel_rfl) | ((with_reducible apply ldt hs.b1); exact rfl; exact rfl; exact rfl; exact rfl; kernel_rfl) | go_big_quiet_step (fail)); (try simp only [Act.put, List.setIfInBounds_toArray, List.set_cons_succ, List.set_cons_zero]))); refine wpQuiet_nil ?_)
      go_wp2_with (first | (go_at_call 25; first | (refine (put25 (g := ⟨aR, n, cR, some ⟨bi, oi, none⟩, n, cI, R, I, cy, cx, v1, v2, v3, v4, v5, v6, v7, v8⟩) hs.b0 (by (repeat first | exact HG.out | apply GS.more)) HF.out HP2.out).mono ?_; clear hs; rintro e w ⟨rfl, hs⟩) | (refine (put25 (g := ⟨aR, n, cR, some ⟨bi, oi, none⟩, n, cI, R, I, cy, cx, v1, v2, v3, v4, v5, v6, v7, v8⟩) hs.b1 (by (repeat first | exact HG.out | apply GS.more)) HF.out HP2.out).mono ?_; clear hs; rintro e w ⟨rfl, hs⟩) | (refine (put25 (g := ⟨aR, n, cR, some ⟨bi, oi, none⟩, n, cI, R, I, cy, cx, v1, v2, v3, v4, v5, v6, v7, v8⟩) hs.b2 (by (repeat first | exact HG.out | apply GS.more)) HF.out HP2.out).mono ?_; clear hs; rintro e w ⟨rfl, hs⟩)) | ((with_reducible refine isl ?_); first | ((with_reducible apply ldx); exact rfl; exact rfl; exact rfl; (first | exact hs.b0 | exact hs.b1); exact rfl; kernel_rfl) | ((with_reducible apply stx); exact rfl; exact rfl; exact rfl; (first | exact hs.b0 | exact hs.b1); exact rfl; exact rfl; exact rfl; kernel_rfl; exact rfl; clear hs; intro w hs) | ((with_reducible apply stcx); exact rfl; exact rfl; exact rfl; (first | exact hs.b0 | exact hs.b1); exact rfl; exact rfl; kernel_rfl; exact rfl; clear hs; intro w hs) | ((with_reducible refine wrap hs ?_); clear hs; intro w hs) | ((with_reducible refine wrapn hs ?_); clear hs; intro w hs) | ((with_reducible refine wrapd hs ?_); clear hs; intro w hs)))
      refine end_end0 rfl rfl ?_
      rw [HGD.out] at hs
      exact ⟨rfl, by refine sb_from ?_ hs; repeat constructor⟩
end Go.Proofs.Ytcheljogpffabaa
namespace Go.Proofs.Ytcheljogpffabaa
open Go.RowKit Go.Mem Go.Words Go.Deep Go.Rev
variable {W w : World} {H : List HProp} {g : Gm} {n m : Nat}
theorem rprev_q {a : Option Addr} {k cp : Nat} {L : List Cm} {col v : Int} (hs : sat W H w) (hc : CS W H a k cp L) (hz : size (cl L) ≤ 600) (e : prevW (words ((cl L).map isB)) col = v) :
    Calls Try.prog 71 #[.slice a k cp, .int .i64 col] w fun e w' => e = .returned (.int .i64 v) ∧ sat W H w' := rprev30 hc hz rfl e hs
theorem rnext_q {a : Option Addr} {k cp : Nat} {L : List Cm} {col v : Int} (hs : sat W H w) (hc : CS W H a k cp L) (hz : size (cl L) ≤ 600) (e : nextW (words ((cl L).map isB)) col = v) :
    Calls Try.prog 72 #[.slice a k cp, .int .i64 col] w fun e w' => e = .returned (.int .i64 v) ∧ sat W H w' := rnext29 hc hz rfl e hs
attribute [local irreducible] rowTy oneTy World.setCell World.setCells World.alloc World.drew World.drewN Calls sat cel own blk old wpQuiet wpList tx onP
set_option maxHeartbeats 4000000 in
set_option maxRecDepth 20000 in
theorem wleft63 {a y x : Nat} {id : Int} {e2 : Bool} {y2 x2 : Nat} {o : Option (Nat × Nat)} (hs : sat W (cel a 40 [.int .i64 id, .int .i64 y, .int .i64 x] :: H) w) (hg : GS W H g) (hF : Fit g.gd n m) (hy : y < n) (hx : x < m) (hid : g.gd.id y = id) (hl : leftW g.gd y x = o) (ho : aft y x o = (y2, x2, e2)) :
    Calls Try.prog 63 #[.pointer (some ⟨a, 0, none⟩), .agg (gV g).toArray] w fun e w' => e = .returned (.bool (!e2)) ∧ sat W (cel a 40 [.int .i64 (g.gd.id y2), .int .i64 y2, .int .i64 x2] :: H) w' := by
  have HL := Lib.hid (show lft g.gd (y + 1) x = o from hl)
  have HO := Lib.hid ho
  have HG := Lib.hid hg
  have HF := Lib.hid hF
  have HID := Lib.hid hid
  have hn := hg.n_eq hF
  have h1 := hF.n1
  have h2 := hF.n12
  have h4 := hF.m600
  have hgm := hF.gm
  obtain ⟨_, bi, oi, ebi, _⟩ := hg.id hs.drop (y := 0) (by omega)
  have HIA : Hid (∀ u, u < n → ∀ w', sat W H w' → w'.cell? ⟨bi, oi + u, none⟩ = some (.int .i64 (g.gd.id u))) := Lib.hid (fun u hu w' hw => by
    obtain ⟨_, b2, o2, e2, hc⟩ := hg.id hs.drop (y := u) (by omega)
    rw [ebi] at e2
    cases e2
    exact hc w' hw)
  obtain ⟨bR, oR, b0, o0, c0, _, ebR, hc0, _⟩ := hg.at_ hF hs.drop (y := 0) (by omega)
  have HC0 := Lib.hid hc0
  have HRW : Hid (∀ u, u < n → ∃ bq oq cq L, (∀ w', sat W H w' → w'.cell? ⟨bR, oR + u, none⟩ = some (.slice (some ⟨bq, oq, none⟩) m cq)) ∧ CS W H (some ⟨bq, oq, none⟩) m cq L ∧ g.gd.bl u = (cl L).map isB ∧ size (cl L) ≤ 600) := Lib.hid (fun u hu => by
    obtain ⟨b2, o2, bq, oq, cq, L, e2, hc, _, hcs, er, hsz⟩ := hg.at_ hF hs.drop hu
    rw [ebR] at e2
    cases e2
    exact ⟨bq, oq, cq, L, hc, hcs, by unfold Gd.bl; rw [er], hsz⟩)
  have hy9 : (y : Int) < (n : Int) := by omega
  have h19 : (0 : Int) < (n : Int) := by omega
  clear hg hF hc0 ho hl hid
  obtain ⟨aR, n', cR, aI, nI, cI, R, I, cy, cx, v1, v2, v3, v4, v5, v6, v7, v8⟩ := g
  obtain ⟨hn1, hn2⟩ := hn
  obtain rfl : n = n' := hn1.symm
  obtain rfl : n = nI := hn2.symm
  obtain rfl : aR = _ := ebR
  obtain rfl : aI = _ := ebi
  obtain ⟨GD, hGD⟩ : ∃ q, Gm.gd ⟨some ⟨bR, oR, none⟩, n, cR, some ⟨bi, oi, none⟩, n, cI, R, I, cy, cx, v1, v2, v3, v4, v5, v6, v7, v8⟩ = q := ⟨_, rfl⟩
  rw [hGD] at HIA HL HRW HID hgm ⊢
  have HGD := Lib.hid hGD
  clear hGD
  obtain ⟨v0, hv0⟩ : ∃ v, prevW (words (GD.bl y)) x = v := ⟨_, rfl⟩
  obtain ⟨bq, oq, cq, L0, hcr, hcs, hrw, hsz⟩ := HRW.out y hy
  have HCR := Lib.hid hcr
  have HCS := Lib.hid hcs
  have HSZ := Lib.hid hsz
  have HV0 : Hid (prevW (words ((cl L0).map isB)) x = v0) := Lib.hid (by rw [← hrw]; exact hv0)
  clear hcr hcs hsz hrw
  go_enter Try.func63, Try.ntmps63
  go_upto_region 1 with fail
  have hs1 := hs.made (T := 34) (l := gV ⟨some ⟨bR, oR, none⟩, n, cR, some ⟨bi, oi, none⟩, n, cI, R, I, cy, cx, v1, v2, v3, v4, v5, v6, v7, v8⟩)
  clear hs
  have hs := hs1
  clear hs1
  generalize World.alloc w _ = w1 at hs ⊢
  generalize w.heap.size = zg at hs ⊢
  refine region_mix [([0, 1, 2, 3, 4, 5, 6, 7, 8, 9, 10, 11], [12])] [13] hs (fun _ h => h) (by kernel_rfl) (by kernel_rfl) (fun _ _ _ _ _ h => h) ?_
  simp only [segs, nths, nth, List.append_nil, List.nil_append, List.cons_append, List.map_cons, List.map_nil]
  refine seg_reads (fun _ h => h) ?_; intro X f hne hf hcl; (try simp only [Act.put, List.setIfInBounds_toArray, List.set_cons_succ, List.set_cons_zero]); (repeat ((first | (apply ldcq; exact rfl; exact rfl; exact rfl; (first | exact fun y => HCR.out _ ((hf y).dropN 0) | exact fun y => HCR.out _ ((hf y).dropN 1) | exact fun y => HCR.out _ ((hf y).dropN 2) | exact fun y => HCR.out _ ((hf y).dropN 3) | exact fun y => HCR.out _ ((hf y).dropN 4) | exact fun y => HCR.out _ ((hf y).dropN 5) | exact fun y => HCR.out _ ((hf y).dropN 6) | exact fun y => HCR.out _ ((hf y).dropN 7)); exact one57) | ((with_reducible apply ldqx); exact rfl; exact rfl; exact rfl; (first | exact fun x => (hf x).b0 | exact fun x => (hf x).b1); exact rfl; kernel_rfl) | go_big_quiet_step (fail)); (try simp only [Act.put, List.setIfInBounds_toArray, List.set_cons_succ, List.set_cons_zero]))); refine wpQuiet_nil ?_; clear hcl hf hne hs f X; intro w hs
  go_wp2_with (first | (go_at_call 71; refine (rprev_q hs (by first | exact HCS.out | exact HCS.out.more | exact HCS.out.more.more | exact HCS.out.more.more.more) HSZ.out HV0.out).mono ?_; clear hs; rintro e w ⟨rfl, hs⟩) | ((with_reducible refine isl ?_); first | ((with_reducible refine wrap hs ?_); clear hs; intro w hs) | ((with_reducible refine wrapn hs ?_); clear hs; intro w hs) | ((with_reducible refine wrapd hs ?_); clear hs; intro w hs)))
  (first | (refine seg_on hs (by first | exact fun _ h => h | exact fun _ h => h.drop | exact fun _ h => h.drop.drop | exact fun _ h => h.drop.drop.drop) (fun _ h => h) ?_; clear hs; intro hs) | (refine seg_on hs.made (by first | exact fun _ h => h | exact fun _ h => h.drop | exact fun _ h => h.drop.drop | exact fun _ h => h.drop.drop.drop) (fun _ h => h) ?_; clear hs; intro hs) | (refine seg_on hs.drew (by first | exact fun _ h => h | exact fun _ h => h.drop | exact fun _ h => h.drop.drop | exact fun _ h => h.drop.drop.drop) (fun _ h => h) ?_; clear hs; intro hs) | (refine seg_on hs.drew.made (by first | exact fun _ h => h | exact fun _ h => h.drop | exact fun _ h => h.drop.drop | exact fun _ h => h.drop.drop.drop) (fun _ h => h) ?_; clear hs; intro hs) | (refine seg_on (hs.drewN _) (by first | exact fun _ h => h | exact fun _ h => h.drop | exact fun _ h => h.drop.drop | exact fun _ h => h.drop.drop.drop) (fun _ h => h) ?_; clear hs; intro hs))
  refine seg_last (fun _ h => h) ?_; intro X f hne hf hcl; (try simp only [Act.put, List.setIfInBounds_toArray, List.set_cons_succ, List.set_cons_zero]); (repeat ((first | (apply ldcq; exact rfl; exact rfl; exact rfl; (first | exact fun y => HCR.out _ ((hf y).dropN 0) | exact fun y => HCR.out _ ((hf y).dropN 1) | exact fun y => HCR.out _ ((hf y).dropN 2) | exact fun y => HCR.out _ ((hf y).dropN 3) | exact fun y => HCR.out _ ((hf y).dropN 4) | exact fun y => HCR.out _ ((hf y).dropN 5) | exact fun y => HCR.out _ ((hf y).dropN 6) | exact fun y => HCR.out _ ((hf y).dropN 7)); exact one57) | ((with_reducible apply ldqx); exact rfl; exact rfl; exact rfl; (first | exact fun x => (hf x).b0 | exact fun x => (hf x).b1); exact rfl; kernel_rfl) | go_big_quiet_step (fail)); (try simp only [Act.put, List.setIfInBounds_toArray, List.set_cons_succ, List.set_cons_zero]))); refine wpQuiet_nil ?_; clear hcl hf hne hs f X; intro w hs
  go_wp2_with (first | ((with_reducible refine isl ?_); first | ((with_reducible apply ldx); exact rfl; exact rfl; exact rfl; (first | exact hs.b0 | exact hs.b1); exact rfl; kernel_rfl) | ((with_reducible apply stx); exact rfl; exact rfl; exact rfl; (first | exact hs.b0 | exact hs.b1); exact rfl; exact rfl; exact rfl; kernel_rfl; exact rfl; clear hs; intro w hs) | ((with_reducible apply stcx); exact rfl; exact rfl; exact rfl; (first | exact hs.b0 | exact hs.b1); exact rfl; exact rfl; kernel_rfl; exact rfl; clear hs; intro w hs) | ((with_reducible refine wrap hs ?_); clear hs; intro w hs) | ((with_reducible refine wrapn hs ?_); clear hs; intro w hs) | ((with_reducible refine wrapd hs ?_); clear hs; intro w hs)))
  go_loopw [5, 6] (fun xv iv wr => ∃ (k : Nat) (c v : Int), k ≤ y + 1 ∧ iv = .int .i64 ((k : Int) - 1) ∧ xv = .int .i64 v ∧ Hid (lft GD k c = o) ∧ Hid (k = y + 1 → c = x ∧ v = v0) ∧ Hid (k < y + 1 → c = m) ∧ sat W (cel zg 34 (gV ⟨some ⟨bR, oR, none⟩, n, cR, some ⟨bi, oi, none⟩, n, cI, R, I, cy, cx, v1, v2, v3, v4, v5, v6, v7, v8⟩) :: cel a 40 [.int .i64 id, .int .i64 y, .int .i64 x] :: H) wr) (fun _ iv _ => (intOf iv + 1).toNat)
  case atStart => exact ⟨y + 1, x, v0, Nat.le_refl _, by go_num, rfl, HL, Lib.hid (fun _ => ⟨rfl, rfl⟩), Lib.hid (fun h => absurd h (Nat.lt_irrefl _)), by refine sb_from ?_ hs; repeat constructor⟩
  case round =>
    clear hs HL
    obtain ⟨k, c, v, hk, rfl, rfl, HL, HK1, HK2, hs⟩ := hrel
    cases k with
    | succ k =>
      have hk1 : ((k + 1 : Nat) : Int) - 1 = (k : Int) := by omega
      rw [hk1]
      have hkn9 : k < n := by omega
      have hk0 : 0 ≤ (k : Int) := by omega
      have hkn : (k : Int) < (n : Int) := by omega
      have hk12 : k ≤ 12 := by omega
      clear hk1
      have HIk := Lib.hid (HIA.out k hkn9)
      by_cases hky : k = y
      · have hlt : ¬ (k : Int) < (y : Int) := by omega
        obtain ⟨rfl, rfl⟩ := HK1.out (by omega)
        have hvv : prevW (words (GD.bl k)) x = v := by rw [hky]; exact hv0
        have hlt2 : decide (k < y) = false := decide_eq_false (by omega)
        clear hky
        by_cases hn0 : 0 ≤ v
        · skip
          obtain ⟨q, rfl⟩ : ∃ q : Nat, v = q := ⟨v.toNat, by omega⟩
          have he : (k, q, false) = (y2, x2, e2) := by rw [← HO.out, lft_yes HL.out hvv]; rfl
          cases he
          clear hvv
          go_wp2_with (first | (apply ldc; exact rfl; exact rfl; exact rfl; (first | exact HIk.out _ (hs.dropN 0) | exact HIk.out _ (hs.dropN 1) | exact HIk.out _ (hs.dropN 2) | exact HIk.out _ (hs.dropN 3) | exact HIk.out _ (hs.dropN 4) | exact HIk.out _ (hs.dropN 5) | exact HIk.out _ (hs.dropN 6) | exact HIk.out _ (hs.dropN 7)); exact one3') | ((with_reducible refine isl ?_); first | ((with_reducible apply ldx); exact rfl; exact rfl; exact rfl; (first | exact hs.b0 | exact hs.b1 | exact hs.b2); exact rfl; kernel_rfl) | ((with_reducible apply stx); exact rfl; exact rfl; exact rfl; (first | exact hs.b0 | exact hs.b1 | exact hs.b2); exact rfl; exact rfl; exact rfl; kernel_rfl; exact rfl; clear hs; intro w hs) | ((with_reducible apply stcx); exact rfl; exact rfl; exact rfl; (first | exact hs.b0 | exact hs.b1 | exact hs.b2); exact rfl; exact rfl; kernel_rfl; exact rfl; clear hs; intro w hs) | ((with_reducible refine wrap hs ?_); clear hs; intro w hs) | ((with_reducible refine wrapn hs ?_); clear hs; intro w hs) | ((with_reducible refine wrapd hs ?_); clear hs; intro w hs)))
          go_ret
          exact ⟨rfl, by refine sb_from ?_ hs; repeat constructor⟩
        · skip
          have HL2 := Lib.hid (lft_no HL.out hvv hn0)
          clear hvv
          go_wp2_with (first | ((with_reducible refine isl ?_); first | ((with_reducible apply ldx); exact rfl; exact rfl; exact rfl; (first | exact hs.b0 | exact hs.b1); exact rfl; kernel_rfl) | ((with_reducible apply stx); exact rfl; exact rfl; exact rfl; (first | exact hs.b0 | exact hs.b1); exact rfl; exact rfl; exact rfl; kernel_rfl; exact rfl; clear hs; intro w hs) | ((with_reducible apply stcx); exact rfl; exact rfl; exact rfl; (first | exact hs.b0 | exact hs.b1); exact rfl; exact rfl; kernel_rfl; exact rfl; clear hs; intro w hs) | ((with_reducible refine wrap hs ?_); clear hs; intro w hs) | ((with_reducible refine wrapn hs ?_); clear hs; intro w hs) | ((with_reducible refine wrapd hs ?_); clear hs; intro w hs)))
          go_roundw
          case rel => exact ⟨k, m, v, by omega, by go_num, rfl, Lib.hid (by rw [← HL2.out, hgm]), Lib.hid (fun h => by omega), Lib.hid (fun _ => rfl), by refine sb_from ?_ hs; repeat constructor⟩
          case measure => simp [intOf]
      · have hlt : (k : Int) < (y : Int) := by omega
        have hlt2 : decide (k < y) = true := decide_eq_true (by omega)
        have hcm := HK2.out (by omega)
        subst hcm
        obtain ⟨bq', oq', cq', L', hcr, hcs, hrw, hsz⟩ := HRW.out k hkn9
        obtain ⟨u, hu⟩ : ∃ v, prevW (words (GD.bl k)) m = v := ⟨_, rfl⟩
        have HCR := Lib.hid hcr
        have HCS := Lib.hid hcs
        have HSZ := Lib.hid hsz
        have HU : Hid (prevW (words ((cl L').map isB)) m = u) := Lib.hid (by rw [← hrw]; exact hu)
        have hvv := hu
        clear hcr hcs hsz hrw hky
        go_upto_region 6 with (first | ((with_reducible refine isl ?_); first | ((with_reducible apply ldx); exact rfl; exact rfl; exact rfl; (first | exact hs.b0 | exact hs.b1); exact rfl; kernel_rfl) | ((with_reducible apply stx); exact rfl; exact rfl; exact rfl; (first | exact hs.b0 | exact hs.b1); exact rfl; exact rfl; exact rfl; kernel_rfl; exact rfl; clear hs; intro w hs) | ((with_reducible apply stcx); exact rfl; exact rfl; exact rfl; (first | exact hs.b0 | exact hs.b1); exact rfl; exact rfl; kernel_rfl; exact rfl; clear hs; intro w hs) | ((with_reducible refine wrap hs ?_); clear hs; intro w hs) | ((with_reducible refine wrapn hs ?_); clear hs; intro w hs) | ((with_reducible refine wrapd hs ?_); clear hs; intro w hs)))
        refine region_mix [([0, 1, 2, 3, 4, 5, 6, 7, 8, 9], [10])] [11] hs (fun _ h => h) (by kernel_rfl) (by kernel_rfl) (fun _ _ _ _ _ h => h) ?_
        simp only [segs, nths, nth, List.append_nil, List.nil_append, List.cons_append, List.map_cons, List.map_nil]
        refine seg_reads (fun _ h => h) ?_; intro X f hne hf hcl; (try simp only [Act.put, List.setIfInBounds_toArray, List.set_cons_succ, List.set_cons_zero]); (repeat ((first | (apply ldcq; exact rfl; exact rfl; exact rfl; (first | exact fun y => HCR.out _ ((hf y).dropN 0) | exact fun y => HCR.out _ ((hf y).dropN 1) | exact fun y => HCR.out _ ((hf y).dropN 2) | exact fun y => HCR.out _ ((hf y).dropN 3) | exact fun y => HCR.out _ ((hf y).dropN 4) | exact fun y => HCR.out _ ((hf y).dropN 5) | exact fun y => HCR.out _ ((hf y).dropN 6) | exact fun y => HCR.out _ ((hf y).dropN 7)); exact one57) | (apply ldcq; exact rfl; exact rfl; exact rfl; (first | exact fun y => HC0.out _ ((hf y).dropN 0) | exact fun y => HC0.out _ ((hf y).dropN 1) | exact fun y => HC0.out _ ((hf y).dropN 2) | exact fun y => HC0.out _ ((hf y).dropN 3) | exact fun y => HC0.out _ ((hf y).dropN 4) | exact fun y => HC0.out _ ((hf y).dropN 5) | exact fun y => HC0.out _ ((hf y).dropN 6) | exact fun y => HC0.out _ ((hf y).dropN 7)); exact one57) | ((with_reducible apply ldqx); exact rfl; exact rfl; exact rfl; (first | exact fun x => (hf x).b0 | exact fun x => (hf x).b1); exact rfl; kernel_rfl) | go_big_quiet_step (fail)); (try simp only [Act.put, List.setIfInBounds_toArray, List.set_cons_succ, List.set_cons_zero]))); refine wpQuiet_nil ?_; clear hcl hf hne hs f X; intro w hs
        go_wp2_with (first | (go_at_call 71; refine (rprev_q hs (by first | exact HCS.out | exact HCS.out.more | exact HCS.out.more.more | exact HCS.out.more.more.more) HSZ.out HU.out).mono ?_; clear hs; rintro e w ⟨rfl, hs⟩) | ((with_reducible refine isl ?_); first | ((with_reducible refine wrap hs ?_); clear hs; intro w hs) | ((with_reducible refine wrapn hs ?_); clear hs; intro w hs) | ((with_reducible refine wrapd hs ?_); clear hs; intro w hs)))
        (first | (refine seg_on hs (by first | exact fun _ h => h | exact fun _ h => h.drop | exact fun _ h => h.drop.drop | exact fun _ h => h.drop.drop.drop) (fun _ h => h) ?_; clear hs; intro hs) | (refine seg_on hs.made (by first | exact fun _ h => h | exact fun _ h => h.drop | exact fun _ h => h.drop.drop | exact fun _ h => h.drop.drop.drop) (fun _ h => h) ?_; clear hs; intro hs) | (refine seg_on hs.drew (by first | exact fun _ h => h | exact fun _ h => h.drop | exact fun _ h => h.drop.drop | exact fun _ h => h.drop.drop.drop) (fun _ h => h) ?_; clear hs; intro hs) | (refine seg_on hs.drew.made (by first | exact fun _ h => h | exact fun _ h => h.drop | exact fun _ h => h.drop.drop | exact fun _ h => h.drop.drop.drop) (fun _ h => h) ?_; clear hs; intro hs) | (refine seg_on (hs.drewN _) (by first | exact fun _ h => h | exact fun _ h => h.drop | exact fun _ h => h.drop.drop | exact fun _ h => h.drop.drop.drop) (fun _ h => h) ?_; clear hs; intro hs))
        refine seg_last (fun _ h => h) ?_; intro X f hne hf hcl; (try simp only [Act.put, List.setIfInBounds_toArray, List.set_cons_succ, List.set_cons_zero]); (repeat ((first | (apply ldcq; exact rfl; exact rfl; exact rfl; (first | exact fun y => HCR.out _ ((hf y).dropN 0) | exact fun y => HCR.out _ ((hf y).dropN 1) | exact fun y => HCR.out _ ((hf y).dropN 2) | exact fun y => HCR.out _ ((hf y).dropN 3) | exact fun y => HCR.out _ ((hf y).dropN 4) | exact fun y => HCR.out _ ((hf y).dropN 5) | exact fun y => HCR.out _ ((hf y).dropN 6) | exact fun y => HCR.out _ ((hf y).dropN 7)); exact one57) | (apply ldcq; exact rfl; exact rfl; exact rfl; (first | exact fun y => HC0.out _ ((hf y).dropN 0) | exact fun y => HC0.out _ ((hf y).dropN 1) | exact fun y => HC0.out _ ((hf y).dropN 2) | exact fun y => HC0.out _ ((hf y).dropN 3) | exact fun y => HC0.out _ ((hf y).dropN 4) | exact fun y => HC0.out _ ((hf y).dropN 5) | exact fun y => HC0.out _ ((hf y).dropN 6) | exact fun y => HC0.out _ ((hf y).dropN 7)); exact one57) | ((with_reducible apply ldqx); exact rfl; exact rfl; exact rfl; (first | exact fun x => (hf x).b0 | exact fun x => (hf x).b1); exact rfl; kernel_rfl) | go_big_quiet_step (fail)); (try simp only [Act.put, List.setIfInBounds_toArray, List.set_cons_succ, List.set_cons_zero]))); refine wpQuiet_nil ?_; clear hcl hf hne hs f X; intro w hs
        generalize hvq : u = v at *
        by_cases hn0 : 0 ≤ v
        · skip
          obtain ⟨q, rfl⟩ : ∃ q : Nat, v = q := ⟨v.toNat, by omega⟩
          have he : (k, q, false) = (y2, x2, e2) := by rw [← HO.out, lft_yes HL.out hvv]; rfl
          cases he
          clear hvv
          go_wp2_with (first | (apply ldc; exact rfl; exact rfl; exact rfl; (first | exact HIk.out _ (hs.dropN 0) | exact HIk.out _ (hs.dropN 1) | exact HIk.out _ (hs.dropN 2) | exact HIk.out _ (hs.dropN 3) | exact HIk.out _ (hs.dropN 4) | exact HIk.out _ (hs.dropN 5) | exact HIk.out _ (hs.dropN 6) | exact HIk.out _ (hs.dropN 7)); exact one3') | ((with_reducible refine isl ?_); first | ((with_reducible apply ldx); exact rfl; exact rfl; exact rfl; (first | exact hs.b0 | exact hs.b1 | exact hs.b2); exact rfl; kernel_rfl) | ((with_reducible apply stx); exact rfl; exact rfl; exact rfl; (first | exact hs.b0 | exact hs.b1 | exact hs.b2); exact rfl; exact rfl; exact rfl; kernel_rfl; exact rfl; clear hs; intro w hs) | ((with_reducible apply stcx); exact rfl; exact rfl; exact rfl; (first | exact hs.b0 | exact hs.b1 | exact hs.b2); exact rfl; exact rfl; kernel_rfl; exact rfl; clear hs; intro w hs) | ((with_reducible refine wrap hs ?_); clear hs; intro w hs) | ((with_reducible refine wrapn hs ?_); clear hs; intro w hs) | ((with_reducible refine wrapd hs ?_); clear hs; intro w hs)))
          go_ret
          exact ⟨rfl, by refine sb_from ?_ hs; repeat constructor⟩
        · skip
          have HL2 := Lib.hid (lft_no HL.out hvv hn0)
          clear hvv
          go_wp2_with (first | ((with_reducible refine isl ?_); first | ((with_reducible apply ldx); exact rfl; exact rfl; exact rfl; (first | exact hs.b0 | exact hs.b1); exact rfl; kernel_rfl) | ((with_reducible apply stx); exact rfl; exact rfl; exact rfl; (first | exact hs.b0 | exact hs.b1); exact rfl; exact rfl; exact rfl; kernel_rfl; exact rfl; clear hs; intro w hs) | ((with_reducible apply stcx); exact rfl; exact rfl; exact rfl; (first | exact hs.b0 | exact hs.b1); exact rfl; exact rfl; kernel_rfl; exact rfl; clear hs; intro w hs) | ((with_reducible refine wrap hs ?_); clear hs; intro w hs) | ((with_reducible refine wrapn hs ?_); clear hs; intro w hs) | ((with_reducible refine wrapd hs ?_); clear hs; intro w hs)))
          go_roundw
          case rel => exact ⟨k, m, v, by omega, by go_num, rfl, Lib.hid (by rw [← HL2.out, hgm]), Lib.hid (fun h => by omega), Lib.hid (fun _ => rfl), by refine sb_from ?_ hs; repeat constructor⟩
          case measure => simp [intOf]
    | zero =>
      have he : (y, x, true) = (y2, x2, e2) := by rw [← HO.out, ← HL.out]; rfl
      cases he
      go_wp2_with (first | ((with_reducible refine isl ?_); first | ((with_reducible apply ldx); exact rfl; exact rfl; exact rfl; (first | exact hs.b0 | exact hs.b1); exact rfl; kernel_rfl) | ((with_reducible apply stx); exact rfl; exact rfl; exact rfl; (first | exact hs.b0 | exact hs.b1); exact rfl; exact rfl; exact rfl; kernel_rfl; exact rfl; clear hs; intro w hs) | ((with_reducible apply stcx); exact rfl; exact rfl; exact rfl; (first | exact hs.b0 | exact hs.b1); exact rfl; exact rfl; kernel_rfl; exact rfl; clear hs; intro w hs) | ((with_reducible refine wrap hs ?_); clear hs; intro w hs) | ((with_reducible refine wrapn hs ?_); clear hs; intro w hs) | ((with_reducible refine wrapd hs ?_); clear hs; intro w hs)))
      go_ret
      rw [HID.out]
      exact ⟨rfl, by refine sb_from ?_ hs; repeat constructor⟩
set_option maxHeartbeats 4000000 in
set_option maxRecDepth 20000 in
theorem wright64 {a y x : Nat} {id : Int} {e2 : Bool} {y2 x2 : Nat} {o : Option (Nat × Nat)} (hs : sat W (cel a 40 [.int .i64 id, .int .i64 y, .int .i64 x] :: H) w) (hg : GS W H g) (hF : Fit g.gd n m) (hy : y < n) (hx : x < m) (hid : g.gd.id y = id) (hl : rightW g.gd (n - y) y x = o) (ho : aft y x o = (y2, x2, e2)) :
    Calls Try.prog 64 #[.pointer (some ⟨a, 0, none⟩), .agg (gV g).toArray] w fun e w' => e = .returned (.bool (!e2)) ∧ sat W (cel a 40 [.int .i64 (g.gd.id y2), .int .i64 y2, .int .i64 x2] :: H) w' := by
  have HL := Lib.hid hl
  have HO := Lib.hid ho
  have HG := Lib.hid hg
  have HF := Lib.hid hF
  have HID := Lib.hid hid
  have hn := hg.n_eq hF
  have h1 := hF.n1
  have h2 := hF.n12
  have h4 := hF.m600
  have hgm := hF.gm
  obtain ⟨_, bi, oi, ebi, _⟩ := hg.id hs.drop (y := 0) (by omega)
  have HIA : Hid (∀ u, u < n → ∀ w', sat W H w' → w'.cell? ⟨bi, oi + u, none⟩ = some (.int .i64 (g.gd.id u))) := Lib.hid (fun u hu w' hw => by
    obtain ⟨_, b2, o2, e2, hc⟩ := hg.id hs.drop (y := u) (by omega)
    rw [ebi] at e2
    cases e2
    exact hc w' hw)
  obtain ⟨bR, oR, b0, o0, c0, _, ebR, hc0, _⟩ := hg.at_ hF hs.drop (y := 0) (by omega)
  have HC0 := Lib.hid hc0
  have HRW : Hid (∀ u, u < n → ∃ bq oq cq L, (∀ w', sat W H w' → w'.cell? ⟨bR, oR + u, none⟩ = some (.slice (some ⟨bq, oq, none⟩) m cq)) ∧ CS W H (some ⟨bq, oq, none⟩) m cq L ∧ g.gd.bl u = (cl L).map isB ∧ size (cl L) ≤ 600) := Lib.hid (fun u hu => by
    obtain ⟨b2, o2, bq, oq, cq, L, e2, hc, _, hcs, er, hsz⟩ := hg.at_ hF hs.drop hu
    rw [ebR] at e2
    cases e2
    exact ⟨bq, oq, cq, L, hc, hcs, by unfold Gd.bl; rw [er], hsz⟩)
  have hy9 : (y : Int) < (n : Int) := by omega
  have h19 : (0 : Int) < (n : Int) := by omega
  clear hg hF hc0 ho hl hid
  obtain ⟨aR, n', cR, aI, nI, cI, R, I, cy, cx, v1, v2, v3, v4, v5, v6, v7, v8⟩ := g
  obtain ⟨hn1, hn2⟩ := hn
  obtain rfl : n = n' := hn1.symm
  obtain rfl : n = nI := hn2.symm
  obtain rfl : aR = _ := ebR
  obtain rfl : aI = _ := ebi
  obtain ⟨GD, hGD⟩ : ∃ q, Gm.gd ⟨some ⟨bR, oR, none⟩, n, cR, some ⟨bi, oi, none⟩, n, cI, R, I, cy, cx, v1, v2, v3, v4, v5, v6, v7, v8⟩ = q := ⟨_, rfl⟩
  rw [hGD] at HIA HL HRW HID hgm ⊢
  have HGD := Lib.hid hGD
  clear hGD
  obtain ⟨v0, hv0⟩ : ∃ v, nextW (words (GD.bl y)) x = v := ⟨_, rfl⟩
  obtain ⟨bq, oq, cq, L0, hcr, hcs, hrw, hsz⟩ := HRW.out y hy
  have HCR := Lib.hid hcr
  have HCS := Lib.hid hcs
  have HSZ := Lib.hid hsz
  have HV0 : Hid (nextW (words ((cl L0).map isB)) x = v0) := Lib.hid (by rw [← hrw]; exact hv0)
  clear hcr hcs hsz hrw
  go_enter Try.func64, Try.ntmps64
  go_upto_region 1 with fail
  have hs1 := hs.made (T := 34) (l := gV ⟨some ⟨bR, oR, none⟩, n, cR, some ⟨bi, oi, none⟩, n, cI, R, I, cy, cx, v1, v2, v3, v4, v5, v6, v7, v8⟩)
  clear hs
  have hs := hs1
  clear hs1
  generalize World.alloc w _ = w1 at hs ⊢
  generalize w.heap.size = zg at hs ⊢
  refine region_mix [([0, 1, 2, 3, 4, 5, 6, 7, 8, 9, 10, 11], [12])] [13] hs (fun _ h => h) (by kernel_rfl) (by kernel_rfl) (fun _ _ _ _ _ h => h) ?_
  simp only [segs, nths, nth, List.append_nil, List.nil_append, List.cons_append, List.map_cons, List.map_nil]
  refine seg_reads (fun _ h => h) ?_; intro X f hne hf hcl; (try simp only [Act.put, List.setIfInBounds_toArray, List.set_cons_succ, List.set_cons_zero]); (repeat ((first | (apply ldcq; exact rfl; exact rfl; exact rfl; (first | exact fun y => HCR.out _ ((hf y).dropN 0) | exact fun y => HCR.out _ ((hf y).dropN 1) | exact fun y => HCR.out _ ((hf y).dropN 2) | exact fun y => HCR.out _ ((hf y).dropN 3) | exact fun y => HCR.out _ ((hf y).dropN 4) | exact fun y => HCR.out _ ((hf y).dropN 5) | exact fun y => HCR.out _ ((hf y).dropN 6) | exact fun y => HCR.out _ ((hf y).dropN 7)); exact one57) | ((with_reducible apply ldqx); exact rfl; exact rfl; exact rfl; (first | exact fun x => (hf x).b0 | exact fun x => (hf x).b1); exact rfl; kernel_rfl) | go_big_quiet_step (fail)); (try simp only [Act.put, List.setIfInBounds_toArray, List.set_cons_succ, List.set_cons_zero]))); refine wpQuiet_nil ?_; clear hcl hf hne hs f X; intro w hs
  go_wp2_with (first | (go_at_call 72; refine (rnext_q hs (by first | exact HCS.out | exact HCS.out.more | exact HCS.out.more.more | exact HCS.out.more.more.more) HSZ.out HV0.out).mono ?_; clear hs; rintro e w ⟨rfl, hs⟩) | ((with_reducible refine isl ?_); first | ((with_reducible refine wrap hs ?_); clear hs; intro w hs) | ((with_reducible refine wrapn hs ?_); clear hs; intro w hs) | ((with_reducible refine wrapd hs ?_); clear hs; intro w hs)))
  (first | (refine seg_on hs (by first | exact fun _ h => h | exact fun _ h => h.drop | exact fun _ h => h.drop.drop | exact fun _ h => h.drop.drop.drop) (fun _ h => h) ?_; clear hs; intro hs) | (refine seg_on hs.made (by first | exact fun _ h => h | exact fun _ h => h.drop | exact fun _ h => h.drop.drop | exact fun _ h => h.drop.drop.drop) (fun _ h => h) ?_; clear hs; intro hs) | (refine seg_on hs.drew (by first | exact fun _ h => h | exact fun _ h => h.drop | exact fun _ h => h.drop.drop | exact fun _ h => h.drop.drop.drop) (fun _ h => h) ?_; clear hs; intro hs) | (refine seg_on hs.drew.made (by first | exact fun _ h => h | exact fun _ h => h.drop | exact fun _ h => h.drop.drop | exact fun _ h => h.drop.drop.drop) (fun _ h => h) ?_; clear hs; intro hs) | (refine seg_on (hs.drewN _) (by first | exact fun _ h => h | exact fun _ h => h.drop | exact fun _ h => h.drop.drop | exact fun _ h => h.drop.drop.drop) (fun _ h => h) ?_; clear hs; intro hs))
  refine seg_last (fun _ h => h) ?_; intro X f hne hf hcl; (try simp only [Act.put, List.setIfInBounds_toArray, List.set_cons_succ, List.set_cons_zero]); (repeat ((first | (apply ldcq; exact rfl; exact rfl; exact rfl; (first | exact fun y => HCR.out _ ((hf y).dropN 0) | exact fun y => HCR.out _ ((hf y).dropN 1) | exact fun y => HCR.out _ ((hf y).dropN 2) | exact fun y => HCR.out _ ((hf y).dropN 3) | exact fun y => HCR.out _ ((hf y).dropN 4) | exact fun y => HCR.out _ ((hf y).dropN 5) | exact fun y => HCR.out _ ((hf y).dropN 6) | exact fun y => HCR.out _ ((hf y).dropN 7)); exact one57) | ((with_reducible apply ldqx); exact rfl; exact rfl; exact rfl; (first | exact fun x => (hf x).b0 | exact fun x => (hf x).b1); exact rfl; kernel_rfl) | go_big_quiet_step (fail)); (try simp only [Act.put, List.setIfInBounds_toArray, List.set_cons_succ, List.set_cons_zero]))); refine wpQuiet_nil ?_; clear hcl hf hne hs f X; intro w hs
  go_wp2_with (first | ((with_reducible refine isl ?_); first | ((with_reducible apply ldx); exact rfl; exact rfl; exact rfl; (first | exact hs.b0 | exact hs.b1); exact rfl; kernel_rfl) | ((with_reducible apply stx); exact rfl; exact rfl; exact rfl; (first | exact hs.b0 | exact hs.b1); exact rfl; exact rfl; exact rfl; kernel_rfl; exact rfl; clear hs; intro w hs) | ((with_reducible apply stcx); exact rfl; exact rfl; exact rfl; (first | exact hs.b0 | exact hs.b1); exact rfl; exact rfl; kernel_rfl; exact rfl; clear hs; intro w hs) | ((with_reducible refine wrap hs ?_); clear hs; intro w hs) | ((with_reducible refine wrapn hs ?_); clear hs; intro w hs) | ((with_reducible refine wrapd hs ?_); clear hs; intro w hs)))
  go_loopw [5, 6] (fun xv iv wr => ∃ (k : Nat) (c v : Int), y ≤ k ∧ k ≤ n ∧ iv = .int .i64 (k : Int) ∧ xv = .int .i64 v ∧ Hid (rightW GD (n - k) k c = o) ∧ Hid (k = y → c = x ∧ v = v0) ∧ Hid (y < k → c = -1) ∧ sat W (cel zg 34 (gV ⟨some ⟨bR, oR, none⟩, n, cR, some ⟨bi, oi, none⟩, n, cI, R, I, cy, cx, v1, v2, v3, v4, v5, v6, v7, v8⟩) :: cel a 40 [.int .i64 id, .int .i64 y, .int .i64 x] :: H) wr) (fun _ iv _ => ((n : Int) - intOf iv).toNat)
  case atStart => exact ⟨y, x, v0, Nat.le_refl _, by omega, rfl, rfl, HL, Lib.hid (fun _ => ⟨rfl, rfl⟩), Lib.hid (fun h => absurd h (Nat.lt_irrefl _)), by refine sb_from ?_ hs; repeat constructor⟩
  case round =>
    clear hs HL
    obtain ⟨k, c, v, hyk, hk, rfl, rfl, HL, HK1, HK2, hs⟩ := hrel
    by_cases hkn9 : k < n
    · have hk0 : 0 ≤ (k : Int) := by omega
      have hkn : (k : Int) < (n : Int) := by omega
      have hk12 : k ≤ 12 := by omega
      have HIk := Lib.hid (HIA.out k hkn9)
      have hL1 : rightW GD ((n - (k + 1)) + 1) k c = o := by rw [← HL.out]; congr 1; omega
      by_cases hky : k = y
      · have hlt : ¬ (y : Int) < (k : Int) := by omega
        obtain ⟨rfl, rfl⟩ := HK1.out hky
        have hvv : nextW (words (GD.bl k)) x = v := by rw [hky]; exact hv0
        have hlt2 : decide (y < k) = false := decide_eq_false (by omega)
        clear hky
        by_cases hn0 : 0 ≤ v
        · skip
          obtain ⟨q, rfl⟩ : ∃ q : Nat, v = q := ⟨v.toNat, by omega⟩
          have he : (k, q, false) = (y2, x2, e2) := by rw [← HO.out, rgt_yes hL1 hvv]; rfl
          cases he
          clear hvv hL1
          go_wp2_with (first | (apply ldc; exact rfl; exact rfl; exact rfl; (first | exact HIk.out _ (hs.dropN 0) | exact HIk.out _ (hs.dropN 1) | exact HIk.out _ (hs.dropN 2) | exact HIk.out _ (hs.dropN 3) | exact HIk.out _ (hs.dropN 4) | exact HIk.out _ (hs.dropN 5) | exact HIk.out _ (hs.dropN 6) | exact HIk.out _ (hs.dropN 7)); exact one3') | ((with_reducible refine isl ?_); first | ((with_reducible apply ldx); exact rfl; exact rfl; exact rfl; (first | exact hs.b0 | exact hs.b1 | exact hs.b2); exact rfl; kernel_rfl) | ((with_reducible apply stx); exact rfl; exact rfl; exact rfl; (first | exact hs.b0 | exact hs.b1 | exact hs.b2); exact rfl; exact rfl; exact rfl; kernel_rfl; exact rfl; clear hs; intro w hs) | ((with_reducible apply stcx); exact rfl; exact rfl; exact rfl; (first | exact hs.b0 | exact hs.b1 | exact hs.b2); exact rfl; exact rfl; kernel_rfl; exact rfl; clear hs; intro w hs) | ((with_reducible refine wrap hs ?_); clear hs; intro w hs) | ((with_reducible refine wrapn hs ?_); clear hs; intro w hs) | ((with_reducible refine wrapd hs ?_); clear hs; intro w hs)))
          go_ret
          exact ⟨rfl, by refine sb_from ?_ hs; repeat constructor⟩
        · skip
          have HL2 := Lib.hid (rgt_no hL1 hvv hn0)
          clear hvv hL1
          go_wp2_with (first | ((with_reducible refine isl ?_); first | ((with_reducible apply ldx); exact rfl; exact rfl; exact rfl; (first | exact hs.b0 | exact hs.b1); exact rfl; kernel_rfl) | ((with_reducible apply stx); exact rfl; exact rfl; exact rfl; (first | exact hs.b0 | exact hs.b1); exact rfl; exact rfl; exact rfl; kernel_rfl; exact rfl; clear hs; intro w hs) | ((with_reducible apply stcx); exact rfl; exact rfl; exact rfl; (first | exact hs.b0 | exact hs.b1); exact rfl; exact rfl; kernel_rfl; exact rfl; clear hs; intro w hs) | ((with_reducible refine wrap hs ?_); clear hs; intro w hs) | ((with_reducible refine wrapn hs ?_); clear hs; intro w hs) | ((with_reducible refine wrapd hs ?_); clear hs; intro w hs)))
          go_roundw
          case rel => exact ⟨k + 1, -1, v, by omega, by omega, by go_num, rfl, HL2, Lib.hid (fun h => by omega), Lib.hid (fun _ => rfl), by refine sb_from ?_ hs; repeat constructor⟩
          case measure => simp [intOf]; omega
      · have hlt : (y : Int) < (k : Int) := by omega
        have hlt2 : decide (y < k) = true := decide_eq_true (by omega)
        have hcm := HK2.out (by omega)
        subst hcm
        obtain ⟨bq', oq', cq', L', hcr, hcs, hrw, hsz⟩ := HRW.out k hkn9
        obtain ⟨u, hu⟩ : ∃ v, nextW (words (GD.bl k)) (-1) = v := ⟨_, rfl⟩
        have HCR := Lib.hid hcr
        have HCS := Lib.hid hcs
        have HSZ := Lib.hid hsz
        have HU : Hid (nextW (words ((cl L').map isB)) (-1) = u) := Lib.hid (by rw [← hrw]; exact hu)
        have hvv := hu
        clear hcr hcs hsz hrw hky
        go_upto_region 7 with (first | (apply ldc; exact rfl; exact rfl; exact rfl; (first | exact HCR.out _ (hs.dropN 0) | exact HCR.out _ (hs.dropN 1) | exact HCR.out _ (hs.dropN 2) | exact HCR.out _ (hs.dropN 3) | exact HCR.out _ (hs.dropN 4) | exact HCR.out _ (hs.dropN 5) | exact HCR.out _ (hs.dropN 6) | exact HCR.out _ (hs.dropN 7)); exact one57) | (go_at_call 72; refine (rnext_q hs (by first | exact HCS.out | exact HCS.out.more | exact HCS.out.more.more | exact HCS.out.more.more.more) HSZ.out HU.out).mono ?_; clear hs; rintro e w ⟨rfl, hs⟩) | ((with_reducible refine isl ?_); first | ((with_reducible apply ldx); exact rfl; exact rfl; exact rfl; (first | exact hs.b0 | exact hs.b1); exact rfl; kernel_rfl) | ((with_reducible apply stx); exact rfl; exact rfl; exact rfl; (first | exact hs.b0 | exact hs.b1); exact rfl; exact rfl; exact rfl; kernel_rfl; exact rfl; clear hs; intro w hs) | ((with_reducible apply stcx); exact rfl; exact rfl; exact rfl; (first | exact hs.b0 | exact hs.b1); exact rfl; exact rfl; kernel_rfl; exact rfl; clear hs; intro w hs) | ((with_reducible refine wrap hs ?_); clear hs; intro w hs) | ((with_reducible refine wrapn hs ?_); clear hs; intro w hs) | ((with_reducible refine wrapd hs ?_); clear hs; intro w hs)))
        generalize hvq : u = v at *
        by_cases hn0 : 0 ≤ v
        · skip
          obtain ⟨q, rfl⟩ : ∃ q : Nat, v = q := ⟨v.toNat, by omega⟩
          have he : (k, q, false) = (y2, x2, e2) := by rw [← HO.out, rgt_yes hL1 hvv]; rfl
          cases he
          clear hvv hL1
          go_wp2_with (first | (apply ldc; exact rfl; exact rfl; exact rfl; (first | exact HIk.out _ (hs.dropN 0) | exact HIk.out _ (hs.dropN 1) | exact HIk.out _ (hs.dropN 2) | exact HIk.out _ (hs.dropN 3) | exact HIk.out _ (hs.dropN 4) | exact HIk.out _ (hs.dropN 5) | exact HIk.out _ (hs.dropN 6) | exact HIk.out _ (hs.dropN 7)); exact one3') | ((with_reducible refine isl ?_); first | ((with_reducible apply ldx); exact rfl; exact rfl; exact rfl; (first | exact hs.b0 | exact hs.b1 | exact hs.b2); exact rfl; kernel_rfl) | ((with_reducible apply stx); exact rfl; exact rfl; exact rfl; (first | exact hs.b0 | exact hs.b1 | exact hs.b2); exact rfl; exact rfl; exact rfl; kernel_rfl; exact rfl; clear hs; intro w hs) | ((with_reducible apply stcx); exact rfl; exact rfl; exact rfl; (first | exact hs.b0 | exact hs.b1 | exact hs.b2); exact rfl; exact rfl; kernel_rfl; exact rfl; clear hs; intro w hs) | ((with_reducible refine wrap hs ?_); clear hs; intro w hs) | ((with_reducible refine wrapn hs ?_); clear hs; intro w hs) | ((with_reducible refine wrapd hs ?_); clear hs; intro w hs)))
          go_ret
          exact ⟨rfl, by refine sb_from ?_ hs; repeat constructor⟩
        · skip
          have HL2 := Lib.hid (rgt_no hL1 hvv hn0)
          clear hvv hL1
          go_wp2_with (first | ((with_reducible refine isl ?_); first | ((with_reducible apply ldx); exact rfl; exact rfl; exact rfl; (first | exact hs.b0 | exact hs.b1); exact rfl; kernel_rfl) | ((with_reducible apply stx); exact rfl; exact rfl; exact rfl; (first | exact hs.b0 | exact hs.b1); exact rfl; exact rfl; exact rfl; kernel_rfl; exact rfl; clear hs; intro w hs) | ((with_reducible apply stcx); exact rfl; exact rfl; exact rfl; (first | exact hs.b0 | exact hs.b1); exact rfl; exact rfl; kernel_rfl; exact rfl; clear hs; intro w hs) | ((with_reducible refine wrap hs ?_); clear hs; intro w hs) | ((with_reducible refine wrapn hs ?_); clear hs; intro w hs) | ((with_reducible refine wrapd hs ?_); clear hs; intro w hs)))
          go_roundw
          case rel => exact ⟨k + 1, -1, v, by omega, by omega, by go_num, rfl, HL2, Lib.hid (fun h => by omega), Lib.hid (fun _ => rfl), by refine sb_from ?_ hs; repeat constructor⟩
          case measure => simp [intOf]; omega
    · have hkn : ¬ (k : Int) < (n : Int) := by omega
      have he : (y, x, true) = (y2, x2, e2) := by rw [← HO.out, ← HL.out, show n - k = 0 by omega]; rfl
      cases he
      clear hkn9
      go_wp2_with (first | ((with_reducible refine isl ?_); first | ((with_reducible apply ldx); exact rfl; exact rfl; exact rfl; (first | exact hs.b0 | exact hs.b1); exact rfl; kernel_rfl) | ((with_reducible apply stx); exact rfl; exact rfl; exact rfl; (first | exact hs.b0 | exact hs.b1); exact rfl; exact rfl; exact rfl; kernel_rfl; exact rfl; clear hs; intro w hs) | ((with_reducible apply stcx); exact rfl; exact rfl; exact rfl; (first | exact hs.b0 | exact hs.b1); exact rfl; exact rfl; kernel_rfl; exact rfl; clear hs; intro w hs) | ((with_reducible refine wrap hs ?_); clear hs; intro w hs) | ((with_reducible refine wrapn hs ?_); clear hs; intro w hs) | ((with_reducible refine wrapd hs ?_); clear hs; intro w hs)))
      go_ret
      rw [HID.out]
      exact ⟨rfl, by refine sb_from ?_ hs; repeat constructor⟩
end Go.Proofs.Ytcheljogpffabaa
