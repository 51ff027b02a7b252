/- Law 21: right, the end, the words. -/
import Derived.Test.YtcheljogpffabaaSf
import Derived.Test.YtcheljogpffabaaR6
namespace Go.Proofs.Ytcheljogpffabaa
open Go.RowKit Go.Mem Go.Words Go.Deep Go.Rev
variable {W w : World} {H : List HProp} {g : Gm} {n m : Nat}
def lft (g : Gd) : Nat → Int → Option (Nat × Nat)
  | 0, _ => none
  | k + 1, c => leftW g k c
theorem lft_yes {g : Gd} {k q : Nat} {c : Int} {o : Option (Nat × Nat)} (h : lft g (k + 1) c = o) (e : prevW (words (g.bl k)) c = (q : Int)) : o = some (k, q) := by
  subst h
  unfold lft
  cases k <;> simp [leftW, e]
theorem lft_no {g : Gd} {k : Nat} {c v : Int} {o : Option (Nat × Nat)} (h : lft g (k + 1) c = o) (e : prevW (words (g.bl k)) c = v) (hv : ¬ 0 ≤ v) : lft g k g.m = o := by
  subst h e
  unfold lft
  cases k <;> simp [leftW, hv]
theorem rgt_yes {g : Gd} {k y q : Nat} {c : Int} {o : Option (Nat × Nat)} (h : rightW g (k + 1) y c = o) (e : nextW (words (g.bl y)) c = (q : Int)) : o = some (y, q) := by
  subst h
  simp [rightW, e]
theorem rgt_no {g : Gd} {k y : Nat} {c v : Int} {o : Option (Nat × Nat)} (h : rightW g (k + 1) y c = o) (e : nextW (words (g.bl y)) c = v) (hv : ¬ 0 ≤ v) : rightW g k (y + 1) (-1) = o := by
  subst h e
  simp [rightW, hv]
attribute [local irreducible] rowTy oneTy World.setCell World.setCells World.alloc World.drew World.drewN Calls sat cel own blk old wpQuiet wpList tx
set_option maxHeartbeats 2000000 in
set_option maxRecDepth 20000 in
theorem words54_left {a y x : Nat} {e2 : Bool} {y2 x2 : Nat} {o : Option (Nat × Nat)} (hs : sat W (cel a 78 (akL g y x false 0) :: H) w) (hg : GS W H g) (hF : Fit g.gd n m) (hy : y < n) (hx : x < m) (hl : leftW g.gd y x = o) (ho : aft y x o = (y2, x2, e2)) :
    Calls Try.prog 54 #[.pointer (some ⟨a, 0, none⟩), .int .i64 (-1), .func (.func 55) #[] #[], .int .i64 m] w fun e' w' => e' = .returned (.tuple #[]) ∧ sat W (cel a 78 (akL g y2 x2 e2 1) :: H) w' := by
  have HL := Lib.hid (show lft g.gd (y + 1) x = o from hl)
  have HO := Lib.hid ho
  clear hl ho
  have hn := (hg.n_eq hF).1
  have h1 := hF.n1
  have h2 := hF.n12
  have h3 := hF.m1
  have h4 := hF.m600
  obtain ⟨b, off, b0, o0, c0, _, eb, hc0, _⟩ := hg.at_ hF hs.drop (y := 0) (by omega)
  have HC0 := Lib.hid hc0
  have HG := Lib.hid hg
  have HF := Lib.hid hF
  clear hc0 hg hF
  obtain ⟨aR, n', cR, aI, nI, cI, R, I, cy, cx, v1, v2, v3, v4, v5, v6, v7, v8⟩ := g
  obtain rfl : n = n' := hn.symm
  obtain rfl : aR = _ := eb
  have HM := Lib.hid HF.out.gm
  have hy9 : (y : Int) < (n : Int) := by omega
  go_enter Try.func54, Try.ntmps54
  go_wp2_with (first | ((with_reducible refine isl ?_); first | ((with_reducible apply ldx); exact rfl; exact rfl; exact rfl; exact hs.b0; exact rfl; kernel_rfl) | ((with_reducible apply stx); exact rfl; exact rfl; exact rfl; exact hs.b0; exact rfl; exact rfl; exact rfl; kernel_rfl; exact rfl; clear hs; intro w hs) | ((with_reducible apply stcx); exact rfl; exact rfl; exact rfl; exact hs.b0; exact rfl; exact rfl; kernel_rfl; exact rfl; clear hs; intro w hs) | ((with_reducible refine wrap hs ?_); clear hs; intro w hs) | ((with_reducible refine wrapn hs ?_); clear hs; intro w hs) | ((with_reducible refine wrapd hs ?_); clear hs; intro w hs)))
  go_loopw [8, 9] (fun cv iv wr => ∃ (k : Nat) (c : Int), k ≤ n ∧ iv = .int .i64 ((k : Int) - 1) ∧ cv = .int .i64 c ∧ Hid (lft (Gm.gd ⟨some ⟨b, off, none⟩, n, cR, aI, nI, cI, R, I, cy, cx, v1, v2, v3, v4, v5, v6, v7, v8⟩) k c = o) ∧ sat W (cel a 78 (akL ⟨some ⟨b, off, none⟩, n, cR, aI, nI, cI, R, I, cy, cx, v1, v2, v3, v4, v5, v6, v7, v8⟩ y x false 1) :: H) wr) (fun _ iv _ => (intOf iv + 1).toNat)
  case atStart => exact ⟨y + 1, x, hy, by go_num, rfl, HL, hs⟩
  case round =>
    clear hs HL
    obtain ⟨k, c, hk, rfl, rfl, HL, hs⟩ := hrel
    cases k with
    | succ k =>
      have hk1 : ((k + 1 : Nat) : Int) - 1 = (k : Int) := by omega
      rw [hk1]
      have hk0 : 0 ≤ (k : Int) := by omega
      have hkn : (k : Int) < (n : Int) := by omega
      clear hk1
      obtain ⟨v, hv⟩ : ∃ v, prevW (words ((Gm.gd ⟨some ⟨b, off, none⟩, n, cR, aI, nI, cI, R, I, cy, cx, v1, v2, v3, v4, v5, v6, v7, v8⟩).bl k)) c = v := ⟨_, rfl⟩
      have HV := Lib.hid hv
      have HLN : Hid (((Gm.gd ⟨some ⟨b, off, none⟩, n, cR, aI, nI, cI, R, I, cy, cx, v1, v2, v3, v4, v5, v6, v7, v8⟩).row k).length ≤ 600) := Lib.hid (by rw [HF.out.row_len hk]; exact h4)
      by_cases hv0 : 0 ≤ v
      · obtain ⟨q, rfl⟩ : ∃ q : Nat, v = q := ⟨v.toNat, by omega⟩
        have he : (k, q, false) = (y2, x2, e2) := by rw [← HO.out, lft_yes HL.out hv]; rfl
        cases he
        clear hv
        go_wp2_with (first | (go_at_call 57; refine (row57 (g := ⟨some ⟨b, off, none⟩, n, cR, aI, nI, cI, R, I, cy, cx, v1, v2, v3, v4, v5, v6, v7, v8⟩) hs (by (repeat first | exact HG.out | apply GS.more)) HF.out (by omega)).mono ?_; clear hs; rintro e w ⟨t, rfl, hs⟩) | (go_at_call 55; refine (prev_q HLN.out HV.out hs).mono ?_; clear hs; rintro e w ⟨rfl, hs⟩) | ((with_reducible refine isl ?_); first | ((with_reducible apply stsx); exact rfl; exact rfl; exact rfl; (first | exact hs.b0 | exact hs.b1 | exact hs.b2); exact rfl; exact row63; exact (Nat.le_of_ble_eq_true rfl); exact rfl; exact rfl; clear hs; intro w hs) | ((with_reducible apply ldx); exact rfl; exact rfl; exact rfl; exact hs.b0; exact rfl; kernel_rfl) | ((with_reducible apply stx); exact rfl; exact rfl; exact rfl; exact hs.b0; exact rfl; exact rfl; exact rfl; kernel_rfl; exact rfl; clear hs; intro w hs) | ((with_reducible apply stcx); exact rfl; exact rfl; exact rfl; exact hs.b0; exact rfl; exact rfl; kernel_rfl; exact rfl; clear hs; intro w hs) | ((with_reducible refine wrap hs ?_); clear hs; intro w hs) | ((with_reducible refine wrapn hs ?_); clear hs; intro w hs) | ((with_reducible refine wrapd hs ?_); clear hs; intro w hs)))
        refine end_ret0 rfl rfl ?_
        exact ⟨rfl, by refine sb_from ?_ hs; repeat constructor⟩
      · have HL2 := Lib.hid (lft_no HL.out hv hv0)
        clear hv
        go_wp2_with (first | (go_at_call 57; refine (row57 (g := ⟨some ⟨b, off, none⟩, n, cR, aI, nI, cI, R, I, cy, cx, v1, v2, v3, v4, v5, v6, v7, v8⟩) hs (by (repeat first | exact HG.out | apply GS.more)) HF.out (by omega)).mono ?_; clear hs; rintro e w ⟨t, rfl, hs⟩) | (go_at_call 55; refine (prev_q HLN.out HV.out hs).mono ?_; clear hs; rintro e w ⟨rfl, hs⟩) | ((with_reducible refine isl ?_); first | ((with_reducible apply ldx); exact rfl; exact rfl; exact rfl; exact hs.b0; exact rfl; kernel_rfl) | ((with_reducible apply stx); exact rfl; exact rfl; exact rfl; exact hs.b0; exact rfl; exact rfl; exact rfl; kernel_rfl; exact rfl; clear hs; intro w hs) | ((with_reducible apply stcx); exact rfl; exact rfl; exact rfl; exact hs.b0; exact rfl; exact rfl; kernel_rfl; exact rfl; clear hs; intro w hs) | ((with_reducible refine wrap hs ?_); clear hs; intro w hs) | ((with_reducible refine wrapn hs ?_); clear hs; intro w hs) | ((with_reducible refine wrapd hs ?_); clear hs; intro w hs)))
        go_roundw
        case rel => exact ⟨k, m, by omega, by go_num, rfl, Lib.hid (by rw [← HL2.out, HM.out]), hs.drop⟩
        case measure => simp [intOf]; omega
    | zero =>
      have he : (y, x, true) = (y2, x2, e2) := by rw [← HO.out, ← HL.out]; rfl
      cases he
      go_wp2_with (first | ((with_reducible refine isl ?_); first | ((with_reducible apply ldx); exact rfl; exact rfl; exact rfl; exact hs.b0; exact rfl; kernel_rfl) | ((with_reducible apply stx); exact rfl; exact rfl; exact rfl; exact hs.b0; exact rfl; exact rfl; exact rfl; kernel_rfl; exact rfl; clear hs; intro w hs) | ((with_reducible apply stcx); exact rfl; exact rfl; exact rfl; exact hs.b0; exact rfl; exact rfl; kernel_rfl; exact rfl; clear hs; intro w hs) | ((with_reducible refine wrap hs ?_); clear hs; intro w hs) | ((with_reducible refine wrapn hs ?_); clear hs; intro w hs) | ((with_reducible refine wrapd hs ?_); clear hs; intro w hs)))
      refine end_end0 rfl rfl ?_
      exact ⟨rfl, by refine sb_from ?_ hs; repeat constructor⟩
set_option maxHeartbeats 2000000 in
set_option maxRecDepth 20000 in
theorem words54_right {a y x : Nat} {e2 : Bool} {y2 x2 : Nat} {o : Option (Nat × Nat)} (hs : sat W (cel a 78 (akL g y x false 0) :: H) w) (hg : GS W H g) (hF : Fit g.gd n m) (hy : y < n) (hx : x < m) (hl : rightW g.gd (n - y) y x = o) (ho : aft y x o = (y2, x2, e2)) :
    Calls Try.prog 54 #[.pointer (some ⟨a, 0, none⟩), .int .i64 1, .func (.func 56) #[] #[], .int .i64 (-1)] w fun e' w' => e' = .returned (.tuple #[]) ∧ sat W (cel a 78 (akL g y2 x2 e2 1) :: H) w' := by
  have HL := Lib.hid hl
  have HO := Lib.hid ho
  clear hl ho
  have hn := (hg.n_eq hF).1
  have h1 := hF.n1
  have h2 := hF.n12
  have h3 := hF.m1
  have h4 := hF.m600
  obtain ⟨b, off, b0, o0, c0, _, eb, hc0, _⟩ := hg.at_ hF hs.drop (y := 0) (by omega)
  have HC0 := Lib.hid hc0
  have HG := Lib.hid hg
  have HF := Lib.hid hF
  clear hc0 hg hF
  obtain ⟨aR, n', cR, aI, nI, cI, R, I, cy, cx, v1, v2, v3, v4, v5, v6, v7, v8⟩ := g
  obtain rfl : n = n' := hn.symm
  obtain rfl : aR = _ := eb
  have hy9 : (y : Int) < (n : Int) := by omega
  go_enter Try.func54, Try.ntmps54
  go_wp2_with (first | ((with_reducible refine isl ?_); first | ((with_reducible apply ldx); exact rfl; exact rfl; exact rfl; exact hs.b0; exact rfl; kernel_rfl) | ((with_reducible apply stx); exact rfl; exact rfl; exact rfl; exact hs.b0; exact rfl; exact rfl; exact rfl; kernel_rfl; exact rfl; clear hs; intro w hs) | ((with_reducible apply stcx); exact rfl; exact rfl; exact rfl; exact hs.b0; exact rfl; exact rfl; kernel_rfl; exact rfl; clear hs; intro w hs) | ((with_reducible refine wrap hs ?_); clear hs; intro w hs) | ((with_reducible refine wrapn hs ?_); clear hs; intro w hs) | ((with_reducible refine wrapd hs ?_); clear hs; intro w hs)))
  go_loopw [8, 9] (fun cv iv wr => ∃ (k : Nat) (c : Int), k ≤ n ∧ iv = .int .i64 (k : Int) ∧ cv = .int .i64 c ∧ Hid (rightW (Gm.gd ⟨some ⟨b, off, none⟩, n, cR, aI, nI, cI, R, I, cy, cx, v1, v2, v3, v4, v5, v6, v7, v8⟩) (n - k) k c = o) ∧ sat W (cel a 78 (akL ⟨some ⟨b, off, none⟩, n, cR, aI, nI, cI, R, I, cy, cx, v1, v2, v3, v4, v5, v6, v7, v8⟩ y x false 1) :: H) wr) (fun _ iv _ => ((n : Int) - intOf iv).toNat)
  case atStart => exact ⟨y, x, by omega, rfl, rfl, HL, hs⟩
  case round =>
    clear hs HL
    obtain ⟨k, c, hk, rfl, rfl, HL, hs⟩ := hrel
    by_cases hlt : k < n
    · have hk0 : 0 ≤ (k : Int) := by omega
      have hkn : (k : Int) < (n : Int) := by omega
      obtain ⟨v, hv⟩ : ∃ v, nextW (words ((Gm.gd ⟨some ⟨b, off, none⟩, n, cR, aI, nI, cI, R, I, cy, cx, v1, v2, v3, v4, v5, v6, v7, v8⟩).bl k)) c = v := ⟨_, rfl⟩
      have HV := Lib.hid hv
      have HLN : Hid (((Gm.gd ⟨some ⟨b, off, none⟩, n, cR, aI, nI, cI, R, I, cy, cx, v1, v2, v3, v4, v5, v6, v7, v8⟩).row k).length ≤ 600) := Lib.hid (by rw [HF.out.row_len hlt]; exact h4)
      have HL1 : rightW (Gm.gd ⟨some ⟨b, off, none⟩, n, cR, aI, nI, cI, R, I, cy, cx, v1, v2, v3, v4, v5, v6, v7, v8⟩) ((n - (k + 1)) + 1) k c = o := by rw [← HL.out]; congr 1; omega
      by_cases hv0 : 0 ≤ v
      · obtain ⟨q, rfl⟩ : ∃ q : Nat, v = q := ⟨v.toNat, by omega⟩
        have he : (k, q, false) = (y2, x2, e2) := by rw [← HO.out, rgt_yes HL1 hv]; rfl
        cases he
        clear hv HL1
        go_wp2_with (first | (go_at_call 57; refine (row57 (g := ⟨some ⟨b, off, none⟩, n, cR, aI, nI, cI, R, I, cy, cx, v1, v2, v3, v4, v5, v6, v7, v8⟩) hs (by (repeat first | exact HG.out | apply GS.more)) HF.out (by omega)).mono ?_; clear hs; rintro e w ⟨t, rfl, hs⟩) | (go_at_call 56; refine (next_q HLN.out HV.out hs).mono ?_; clear hs; rintro e w ⟨rfl, hs⟩) | ((with_reducible refine isl ?_); first | ((with_reducible apply stsx); exact rfl; exact rfl; exact rfl; (first | exact hs.b0 | exact hs.b1 | exact hs.b2); exact rfl; exact row63; exact (Nat.le_of_ble_eq_true rfl); exact rfl; exact rfl; clear hs; intro w hs) | ((with_reducible apply ldx); exact rfl; exact rfl; exact rfl; exact hs.b0; exact rfl; kernel_rfl) | ((with_reducible apply stx); exact rfl; exact rfl; exact rfl; exact hs.b0; exact rfl; exact rfl; exact rfl; kernel_rfl; exact rfl; clear hs; intro w hs) | ((with_reducible apply stcx); exact rfl; exact rfl; exact rfl; exact hs.b0; exact rfl; exact rfl; kernel_rfl; exact rfl; clear hs; intro w hs) | ((with_reducible refine wrap hs ?_); clear hs; intro w hs) | ((with_reducible refine wrapn hs ?_); clear hs; intro w hs) | ((with_reducible refine wrapd hs ?_); clear hs; intro w hs)))
        refine end_ret0 rfl rfl ?_
        exact ⟨rfl, by refine sb_from ?_ hs; repeat constructor⟩
      · have HL2 := Lib.hid (rgt_no HL1 hv hv0)
        clear hv HL1
        go_wp2_with (first | (go_at_call 57; refine (row57 (g := ⟨some ⟨b, off, none⟩, n, cR, aI, nI, cI, R, I, cy, cx, v1, v2, v3, v4, v5, v6, v7, v8⟩) hs (by (repeat first | exact HG.out | apply GS.more)) HF.out (by omega)).mono ?_; clear hs; rintro e w ⟨t, rfl, hs⟩) | (go_at_call 56; refine (next_q HLN.out HV.out hs).mono ?_; clear hs; rintro e w ⟨rfl, hs⟩) | ((with_reducible refine isl ?_); first | ((with_reducible apply ldx); exact rfl; exact rfl; exact rfl; exact hs.b0; exact rfl; kernel_rfl) | ((with_reducible apply stx); exact rfl; exact rfl; exact rfl; exact hs.b0; exact rfl; exact rfl; exact rfl; kernel_rfl; exact rfl; clear hs; intro w hs) | ((with_reducible apply stcx); exact rfl; exact rfl; exact rfl; exact hs.b0; exact rfl; exact rfl; kernel_rfl; exact rfl; clear hs; intro w hs) | ((with_reducible refine wrap hs ?_); clear hs; intro w hs) | ((with_reducible refine wrapn hs ?_); clear hs; intro w hs) | ((with_reducible refine wrapd hs ?_); clear hs; intro w hs)))
        go_roundw
        case rel => exact ⟨k + 1, -1, by omega, by go_num, rfl, HL2, hs.drop⟩
        case measure => simp [intOf]; omega
    · have hkn : ¬ (k : Int) < (n : Int) := by omega
      have he : (y, x, true) = (y2, x2, e2) := by rw [← HO.out, ← HL.out, show n - k = 0 by omega]; rfl
      cases he
      clear hlt
      have hk0 : 0 ≤ (k : Int) := by omega
      go_wp2_with (first | ((with_reducible refine isl ?_); first | ((with_reducible apply ldx); exact rfl; exact rfl; exact rfl; exact hs.b0; exact rfl; kernel_rfl) | ((with_reducible apply stx); exact rfl; exact rfl; exact rfl; exact hs.b0; exact rfl; exact rfl; exact rfl; kernel_rfl; exact rfl; clear hs; intro w hs) | ((with_reducible apply stcx); exact rfl; exact rfl; exact rfl; exact hs.b0; exact rfl; exact rfl; kernel_rfl; exact rfl; clear hs; intro w hs) | ((with_reducible refine wrap hs ?_); clear hs; intro w hs) | ((with_reducible refine wrapn hs ?_); clear hs; intro w hs) | ((with_reducible refine wrapd hs ?_); clear hs; intro w hs)))
      refine end_end0 rfl rfl ?_
      exact ⟨rfl, by refine sb_from ?_ hs; repeat constructor⟩
set_option maxHeartbeats 2000000 in
set_option maxRecDepth 20000 in
theorem cmd30 {a y x : Nat} {e2 : Bool} {y2 x2 : Nat} (hs : sat W (cel a 78 (akL g y x false 0) :: H) w) (hg : GS W H g) (hF : Fit g.gd n m) (hy : y < n) (hx : x < m) (ho : aft y x (goTo g.gd y x 5) = (y2, x2, e2)) :
    Calls Try.prog 30 #[.pointer (some ⟨a, 0, none⟩)] w fun e' w' => e' = .returned (.tuple #[]) ∧ sat W (cel a 78 (akL g y2 x2 e2 1) :: H) w' := by
  have hl : leftW g.gd y x = goTo g.gd y x 5 := by simp [goTo]
  have HL := Lib.hid hl
  have HO := Lib.hid ho
  have hn := (hg.n_eq hF).1
  have h1 := hF.n1
  have h2 := hF.n12
  have h3 := hF.m1
  have h4 := hF.m600
  obtain ⟨b, off, b0, o0, c0, _, eb, hc0, _⟩ := hg.at_ hF hs.drop (y := 0) (by omega)
  have HC0 := Lib.hid hc0
  have HG := Lib.hid hg
  have HF := Lib.hid hF
  clear hc0 hg hF
  obtain ⟨aR, n', cR, aI, nI, cI, R, I, cy, cx, v1, v2, v3, v4, v5, v6, v7, v8⟩ := g
  obtain rfl : n = n' := hn.symm
  obtain rfl : aR = _ := eb
  have h19 : (0 : Int) < (n : Int) := by omega
  go_enter Try.func30, Try.ntmps30
  go_wp2_with (first | (apply ldc; exact rfl; exact rfl; exact rfl; (first | exact HC0.out _ (hs.dropN 0) | exact HC0.out _ (hs.dropN 1) | exact HC0.out _ (hs.dropN 2) | exact HC0.out _ (hs.dropN 3) | exact HC0.out _ (hs.dropN 4) | exact HC0.out _ (hs.dropN 5) | exact HC0.out _ (hs.dropN 6) | exact HC0.out _ (hs.dropN 7)); exact one57) | (go_at_call 54; refine (words54_left (g := ⟨some ⟨b, off, none⟩, n, cR, aI, nI, cI, R, I, cy, cx, v1, v2, v3, v4, v5, v6, v7, v8⟩) (o := goTo (Gm.gd ⟨some ⟨b, off, none⟩, n, cR, aI, nI, cI, R, I, cy, cx, v1, v2, v3, v4, v5, v6, v7, v8⟩) y x 5) hs (by (repeat first | exact HG.out | apply GS.more)) HF.out hy hx HL.out HO.out).mono ?_; clear hs; rintro e w ⟨rfl, hs⟩) | ((with_reducible refine isl ?_); first | ((with_reducible apply ldx); exact rfl; exact rfl; exact rfl; exact hs.b0; exact rfl; kernel_rfl) | ((with_reducible apply stx); exact rfl; exact rfl; exact rfl; exact hs.b0; exact rfl; exact rfl; exact rfl; kernel_rfl; exact rfl; clear hs; intro w hs) | ((with_reducible apply stcx); exact rfl; exact rfl; exact rfl; exact hs.b0; exact rfl; exact rfl; kernel_rfl; exact rfl; clear hs; intro w hs) | ((with_reducible refine wrap hs ?_); clear hs; intro w hs) | ((with_reducible refine wrapn hs ?_); clear hs; intro w hs) | ((with_reducible refine wrapd hs ?_); clear hs; intro w hs)))
  refine end_end0 rfl rfl ?_
  exact ⟨rfl, by refine sb_from ?_ hs; repeat constructor⟩
set_option maxHeartbeats 2000000 in
set_option maxRecDepth 20000 in
theorem cmd31 {a y x : Nat} {e2 : Bool} {y2 x2 : Nat} (hs : sat W (cel a 78 (akL g y x false 0) :: H) w) (hg : GS W H g) (hF : Fit g.gd n m) (hy : y < n) (hx : x < m) (ho : aft y x (goTo g.gd y x 6) = (y2, x2, e2)) :
    Calls Try.prog 31 #[.pointer (some ⟨a, 0, none⟩)] w fun e' w' => e' = .returned (.tuple #[]) ∧ sat W (cel a 78 (akL g y2 x2 e2 1) :: H) w' := by
  have hl : rightW g.gd (n - y) y x = goTo g.gd y x 6 := by simp [goTo, hF.gn]
  have HL := Lib.hid hl
  have HO := Lib.hid ho
  have hn := (hg.n_eq hF).1
  have h1 := hF.n1
  have h2 := hF.n12
  have h3 := hF.m1
  have h4 := hF.m600
  obtain ⟨b, off, b0, o0, c0, _, eb, hc0, _⟩ := hg.at_ hF hs.drop (y := 0) (by omega)
  have HC0 := Lib.hid hc0
  have HG := Lib.hid hg
  have HF := Lib.hid hF
  clear hc0 hg hF
  obtain ⟨aR, n', cR, aI, nI, cI, R, I, cy, cx, v1, v2, v3, v4, v5, v6, v7, v8⟩ := g
  obtain rfl : n = n' := hn.symm
  obtain rfl : aR = _ := eb
  go_enter Try.func31, Try.ntmps31
  go_wp2_with (first | (go_at_call 54; refine (words54_right (g := ⟨some ⟨b, off, none⟩, n, cR, aI, nI, cI, R, I, cy, cx, v1, v2, v3, v4, v5, v6, v7, v8⟩) (o := goTo (Gm.gd ⟨some ⟨b, off, none⟩, n, cR, aI, nI, cI, R, I, cy, cx, v1, v2, v3, v4, v5, v6, v7, v8⟩) y x 6) hs (by (repeat first | exact HG.out | apply GS.more)) HF.out hy hx HL.out HO.out).mono ?_; clear hs; rintro e w ⟨rfl, hs⟩) | ((with_reducible refine isl ?_); first | ((with_reducible apply ldx); exact rfl; exact rfl; exact rfl; exact hs.b0; exact rfl; kernel_rfl) | ((with_reducible apply stx); exact rfl; exact rfl; exact rfl; exact hs.b0; exact rfl; exact rfl; exact rfl; kernel_rfl; exact rfl; clear hs; intro w hs) | ((with_reducible apply stcx); exact rfl; exact rfl; exact rfl; exact hs.b0; exact rfl; exact rfl; kernel_rfl; exact rfl; clear hs; intro w hs) | ((with_reducible refine wrap hs ?_); clear hs; intro w hs) | ((with_reducible refine wrapn hs ?_); clear hs; intro w hs) | ((with_reducible refine wrapd hs ?_); clear hs; intro w hs)))
  refine end_end0 rfl rfl ?_
  exact ⟨rfl, by refine sb_from ?_ hs; repeat constructor⟩
set_option maxHeartbeats 2000000 in
set_option maxRecDepth 20000 in
theorem cmd27 {a y x : Nat} {e2 : Bool} {y2 x2 : Nat} (hs : sat W (cel a 78 (akL g y x false 0) :: H) w) (hg : GS W H g) (hF : Fit g.gd n m) (hy : y < n) (hx : x < m) (ho : aft y x (goTo g.gd y x 2) = (y2, x2, e2)) :
    Calls Try.prog 27 #[.pointer (some ⟨a, 0, none⟩)] w fun e' w' => e' = .returned (.tuple #[]) ∧ sat W (cel a 78 (akL g y2 x2 e2 0) :: H) w' := by
  have HSZ := Lib.hid (show ∃ r, sizeP g.gd y x = r ∧ r ≤ 2 from ⟨_, rfl, by unfold sizeP; split <;> omega⟩)
  obtain ⟨r, hr, hr2⟩ := HSZ.out
  clear HSZ
  have HR := Lib.hid hr
  have hgo : goTo g.gd y x 2 = if x + r < m then some (heldP g.gd y ((x : Int) + r)) else none := by simp [goTo, hr, hF.gm]
  rw [hgo] at ho
  clear hr hgo
  by_cases h0 : x + r < m
  · rw [if_pos h0] at ho
    obtain ⟨⟨p1, p2⟩, hp⟩ : ∃ p, heldP g.gd y ((x : Int) + r) = p := ⟨_, rfl⟩
    have he : (p1, p2, false) = (y2, x2, e2) := by rw [← ho, hp]; rfl
    cases he
    have HP := Lib.hid hp
    clear hp ho
    have hn := (hg.n_eq hF).1
    have h1 := hF.n1
    have h2 := hF.n12
    have h3 := hF.m1
    have h4 := hF.m600
    obtain ⟨b, off, b0, o0, c0, _, eb, hc0, _⟩ := hg.at_ hF hs.drop (y := 0) (by omega)
    have HC0 := Lib.hid hc0
    have HG := Lib.hid hg
    have HF := Lib.hid hF
    clear hc0 hg hF
    obtain ⟨aR, n', cR, aI, nI, cI, R, I, cy, cx, v1, v2, v3, v4, v5, v6, v7, v8⟩ := g
    obtain rfl : n = n' := hn.symm
    obtain rfl : aR = _ := eb
    have h19 : (0 : Int) < (n : Int) := by omega
    have hx0 : decide ((x : Int) + (r : Int) < (m : Int)) = true := decide_eq_true (by omega)
    clear h0
    go_enter Try.func27, Try.ntmps27
    go_upto_region 0 with fail
    refine region_mix [([0, 1, 2, 3, 4, 5], [6])] [7, 8] hs (fun _ h => h) (by kernel_rfl) (by kernel_rfl) (fun _ _ _ _ _ h => h) ?_
    simp only [segs, nths, nth, List.append_nil, List.nil_append, List.cons_append, List.map_cons, List.map_nil]
    refine seg_reads (fun _ h => h) ?_; intro X f hne hf hcl; (try simp only [Act.put, List.setIfInBounds_toArray, List.set_cons_succ, List.set_cons_zero]); (repeat ((first | ((with_reducible apply ldqx); exact rfl; exact rfl; exact rfl; exact fun x => (hf x).b0; exact rfl; kernel_rfl) | go_big_quiet_step (fail)); (try simp only [Act.put, List.setIfInBounds_toArray, List.set_cons_succ, List.set_cons_zero]))); refine wpQuiet_nil ?_; clear hcl hf hne hs f X; intro w hs
    go_wp2_with (first | (go_at_call 53; refine (size53 (g := ⟨some ⟨b, off, none⟩, n, cR, aI, nI, cI, R, I, cy, cx, v1, v2, v3, v4, v5, v6, v7, v8⟩) hs (by (repeat first | exact HG.out | apply GS.more)) HF.out hy hx).mono ?_; clear hs; rintro e w ⟨rfl, hs⟩; rw [HR.out]) | ((with_reducible refine isl ?_); first | ((with_reducible refine wrap hs ?_); clear hs; intro w hs) | ((with_reducible refine wrapn hs ?_); clear hs; intro w hs) | ((with_reducible refine wrapd hs ?_); clear hs; intro w hs)))
    (first | (refine seg_on hs (by first | exact fun _ h => h | exact fun _ h => h.drop | exact fun _ h => h.drop.drop | exact fun _ h => h.drop.drop.drop) (fun _ h => h) ?_; clear hs; intro hs) | (refine seg_on hs.made (by first | exact fun _ h => h | exact fun _ h => h.drop | exact fun _ h => h.drop.drop | exact fun _ h => h.drop.drop.drop) (fun _ h => h) ?_; clear hs; intro hs) | (refine seg_on hs.drew (by first | exact fun _ h => h | exact fun _ h => h.drop | exact fun _ h => h.drop.drop | exact fun _ h => h.drop.drop.drop) (fun _ h => h) ?_; clear hs; intro hs) | (refine seg_on hs.drew.made (by first | exact fun _ h => h | exact fun _ h => h.drop | exact fun _ h => h.drop.drop | exact fun _ h => h.drop.drop.drop) (fun _ h => h) ?_; clear hs; intro hs) | (refine seg_on (hs.drewN _) (by first | exact fun _ h => h | exact fun _ h => h.drop | exact fun _ h => h.drop.drop | exact fun _ h => h.drop.drop.drop) (fun _ h => h) ?_; clear hs; intro hs))
    refine seg_last (fun _ h => h) ?_; intro X f hne hf hcl; (try simp only [Act.put, List.setIfInBounds_toArray, List.set_cons_succ, List.set_cons_zero]); (repeat ((first | ((with_reducible apply ldqx); exact rfl; exact rfl; exact rfl; exact fun x => (hf x).b0; exact rfl; kernel_rfl) | go_big_quiet_step (fail)); (try simp only [Act.put, List.setIfInBounds_toArray, List.set_cons_succ, List.set_cons_zero]))); refine wpQuiet_nil ?_; clear hcl hf hne hs f X; intro w hs
    go_upto_region 1 with fail
    ((try simp only [Act.put, List.setIfInBounds_toArray, List.set_cons_succ, List.set_cons_zero]); refine region_tail 18 hs (by kernel_rfl) (by kernel_rfl) ?_; simp only [List.take_succ_cons, List.take_zero, List.drop_succ_cons, List.drop_zero]; clear hs; intro w hs; (repeat ((first | (apply ldct; exact rfl; exact rfl; exact rfl; exact HC0.out _ hs.drop; exact one57) | ((with_reducible apply ldt hs.b0); exact rfl; exact rfl; exact rfl; exact rfl; kernel_rfl) | go_big_quiet_step (fail)); (try simp only [Act.put, List.setIfInBounds_toArray, List.set_cons_succ, List.set_cons_zero]))); refine wpQuiet_nil ?_)
    go_wp2_with (first | (go_at_call 52; refine (to52_yes (g := ⟨some ⟨b, off, none⟩, n, cR, aI, nI, cI, R, I, cy, cx, v1, v2, v3, v4, v5, v6, v7, v8⟩) (py := y) (px := (x : Int) + r) hs (by (repeat first | exact HG.out | apply GS.more)) HF.out HP.out).mono ?_; clear hs; rintro e w ⟨rfl, hs⟩) | ((with_reducible refine isl ?_); first | ((with_reducible apply ldx); exact rfl; exact rfl; exact rfl; exact hs.b0; exact rfl; kernel_rfl) | ((with_reducible apply stx); exact rfl; exact rfl; exact rfl; exact hs.b0; exact rfl; exact rfl; exact rfl; kernel_rfl; exact rfl; clear hs; intro w hs) | ((with_reducible apply stcx); exact rfl; exact rfl; exact rfl; exact hs.b0; exact rfl; exact rfl; kernel_rfl; exact rfl; clear hs; intro w hs) | ((with_reducible refine wrap hs ?_); clear hs; intro w hs) | ((with_reducible refine wrapn hs ?_); clear hs; intro w hs) | ((with_reducible refine wrapd hs ?_); clear hs; intro w hs)))
    refine end_end0 rfl rfl ?_
    exact ⟨rfl, by refine sb_from ?_ hs; repeat constructor⟩
  · rw [if_neg h0] at ho
    have he : (y, x, true) = (y2, x2, e2) := by rw [← ho]; rfl
    cases he
    clear ho
    have hn := (hg.n_eq hF).1
    have h1 := hF.n1
    have h2 := hF.n12
    have h3 := hF.m1
    have h4 := hF.m600
    obtain ⟨b, off, b0, o0, c0, _, eb, hc0, _⟩ := hg.at_ hF hs.drop (y := 0) (by omega)
    have HC0 := Lib.hid hc0
    have HG := Lib.hid hg
    have HF := Lib.hid hF
    clear hc0 hg hF
    obtain ⟨aR, n', cR, aI, nI, cI, R, I, cy, cx, v1, v2, v3, v4, v5, v6, v7, v8⟩ := g
    obtain rfl : n = n' := hn.symm
    obtain rfl : aR = _ := eb
    have h19 : (0 : Int) < (n : Int) := by omega
    have hx0 : decide ((x : Int) + (r : Int) < (m : Int)) = false := decide_eq_false (by omega)
    clear h0
    go_enter Try.func27, Try.ntmps27
    go_upto_region 0 with fail
    refine region_mix [([0, 1, 2, 3, 4, 5], [6])] [7, 8] hs (fun _ h => h) (by kernel_rfl) (by kernel_rfl) (fun _ _ _ _ _ h => h) ?_
    simp only [segs, nths, nth, List.append_nil, List.nil_append, List.cons_append, List.map_cons, List.map_nil]
    refine seg_reads (fun _ h => h) ?_; intro X f hne hf hcl; (try simp only [Act.put, List.setIfInBounds_toArray, List.set_cons_succ, List.set_cons_zero]); (repeat ((first | ((with_reducible apply ldqx); exact rfl; exact rfl; exact rfl; exact fun x => (hf x).b0; exact rfl; kernel_rfl) | go_big_quiet_step (fail)); (try simp only [Act.put, List.setIfInBounds_toArray, List.set_cons_succ, List.set_cons_zero]))); refine wpQuiet_nil ?_; clear hcl hf hne hs f X; intro w hs
    go_wp2_with (first | (go_at_call 53; refine (size53 (g := ⟨some ⟨b, off, none⟩, n, cR, aI, nI, cI, R, I, cy, cx, v1, v2, v3, v4, v5, v6, v7, v8⟩) hs (by (repeat first | exact HG.out | apply GS.more)) HF.out hy hx).mono ?_; clear hs; rintro e w ⟨rfl, hs⟩; rw [HR.out]) | ((with_reducible refine isl ?_); first | ((with_reducible refine wrap hs ?_); clear hs; intro w hs) | ((with_reducible refine wrapn hs ?_); clear hs; intro w hs) | ((with_reducible refine wrapd hs ?_); clear hs; intro w hs)))
    (first | (refine seg_on hs (by first | exact fun _ h => h | exact fun _ h => h.drop | exact fun _ h => h.drop.drop | exact fun _ h => h.drop.drop.drop) (fun _ h => h) ?_; clear hs; intro hs) | (refine seg_on hs.made (by first | exact fun _ h => h | exact fun _ h => h.drop | exact fun _ h => h.drop.drop | exact fun _ h => h.drop.drop.drop) (fun _ h => h) ?_; clear hs; intro hs) | (refine seg_on hs.drew (by first | exact fun _ h => h | exact fun _ h => h.drop | exact fun _ h => h.drop.drop | exact fun _ h => h.drop.drop.drop) (fun _ h => h) ?_; clear hs; intro hs) | (refine seg_on hs.drew.made (by first | exact fun _ h => h | exact fun _ h => h.drop | exact fun _ h => h.drop.drop | exact fun _ h => h.drop.drop.drop) (fun _ h => h) ?_; clear hs; intro hs) | (refine seg_on (hs.drewN _) (by first | exact fun _ h => h | exact fun _ h => h.drop | exact fun _ h => h.drop.drop | exact fun _ h => h.drop.drop.drop) (fun _ h => h) ?_; clear hs; intro hs))
    refine seg_last (fun _ h => h) ?_; intro X f hne hf hcl; (try simp only [Act.put, List.setIfInBounds_toArray, List.set_cons_succ, List.set_cons_zero]); (repeat ((first | ((with_reducible apply ldqx); exact rfl; exact rfl; exact rfl; exact fun x => (hf x).b0; exact rfl; kernel_rfl) | go_big_quiet_step (fail)); (try simp only [Act.put, List.setIfInBounds_toArray, List.set_cons_succ, List.set_cons_zero]))); refine wpQuiet_nil ?_; clear hcl hf hne hs f X; intro w hs
    go_upto_region 1 with fail
    ((try simp only [Act.put, List.setIfInBounds_toArray, List.set_cons_succ, List.set_cons_zero]); refine region_tail 18 hs (by kernel_rfl) (by kernel_rfl) ?_; simp only [List.take_succ_cons, List.take_zero, List.drop_succ_cons, List.drop_zero]; clear hs; intro w hs; (repeat ((first | (apply ldct; exact rfl; exact rfl; exact rfl; exact HC0.out _ hs.drop; exact one57) | ((with_reducible apply ldt hs.b0); exact rfl; exact rfl; exact rfl; exact rfl; kernel_rfl) | go_big_quiet_step (fail)); (try simp only [Act.put, List.setIfInBounds_toArray, List.set_cons_succ, List.set_cons_zero]))); refine wpQuiet_nil ?_)
    go_wp2_with (first | (go_at_call 52; refine (to52_no (g := ⟨some ⟨b, off, none⟩, n, cR, aI, nI, cI, R, I, cy, cx, v1, v2, v3, v4, v5, v6, v7, v8⟩) (py := y) (px := (x : Int) + r) hs).mono ?_; clear hs; rintro e w ⟨rfl, hs⟩) | ((with_reducible refine isl ?_); first | ((with_reducible apply ldx); exact rfl; exact rfl; exact rfl; exact hs.b0; exact rfl; kernel_rfl) | ((with_reducible apply stx); exact rfl; exact rfl; exact rfl; exact hs.b0; exact rfl; exact rfl; exact rfl; kernel_rfl; exact rfl; clear hs; intro w hs) | ((with_reducible apply stcx); exact rfl; exact rfl; exact rfl; exact hs.b0; exact rfl; exact rfl; kernel_rfl; exact rfl; clear hs; intro w hs) | ((with_reducible refine wrap hs ?_); clear hs; intro w hs) | ((with_reducible refine wrapn hs ?_); clear hs; intro w hs) | ((with_reducible refine wrapd hs ?_); clear hs; intro w hs)))
    refine end_end0 rfl rfl ?_
    exact ⟨rfl, by refine sb_from ?_ hs; repeat constructor⟩
set_option maxHeartbeats 2000000 in
set_option maxRecDepth 20000 in
theorem cmd33 {a y x : Nat} {e2 : Bool} {y2 x2 : Nat} (hs : sat W (cel a 78 (akL g y x false 0) :: H) w) (hg : GS W H g) (hF : Fit g.gd n m) (hy : y < n) (hx : x < m) (ho : aft y x (goTo g.gd y x 8) = (y2, x2, e2)) :
    Calls Try.prog 33 #[.pointer (some ⟨a, 0, none⟩)] w fun e' w' => e' = .returned (.tuple #[]) ∧ sat W (cel a 78 (akL g y2 x2 e2 0) :: H) w' := by
  obtain ⟨z, hz⟩ : ∃ z, endX (g.gd.bl y) = z := ⟨_, rfl⟩
  have hgo : goTo g.gd y x 8 = some (heldP g.gd y (z : Int)) := by simp [goTo, hz]
  rw [hgo] at ho
  obtain ⟨⟨p1, p2⟩, hp⟩ : ∃ p, heldP g.gd y (z : Int) = p := ⟨_, rfl⟩
  have he : (p1, p2, false) = (y2, x2, e2) := by rw [← ho, hp]; rfl
  cases he
  have HP := Lib.hid hp
  clear hp ho hgo
  obtain ⟨ws, hws⟩ : ∃ ws, words (g.gd.bl y) = ws := ⟨_, rfl⟩
  obtain ⟨k, hk⟩ : ∃ k, ws.length = k := ⟨_, rfl⟩
  have HWS := Lib.hid hws
  have HK := Lib.hid hk
  have HLN : Hid ((g.gd.row y).length ≤ 600) := Lib.hid (by rw [hF.row_len hy]; exact hF.m600)
  have hk6 : k ≤ 600 := by have h1 := words_len (g.gd.bl y) _ 0 rfl; rw [hF.bl_len hy] at h1; have := hF.m600; rw [← hk, ← hws]; unfold words; omega
  by_cases hk0 : k = 0
  · have hz0 : z = 0 := by rw [← hz]; exact end_nil (by rw [hws]; exact List.eq_nil_of_length_eq_zero (by omega))
    have HP0 : Hid (heldP g.gd y 0 = (y2, x2)) := Lib.hid (by rw [← HP.out, hz0]; rfl)
    have hkp : decide (0 < k) = false := decide_eq_false (by omega)
    clear hz hws hk hk0 hz0
    have hn := (hg.n_eq hF).1
    have h1 := hF.n1
    have h2 := hF.n12
    have h3 := hF.m1
    have h4 := hF.m600
    obtain ⟨b, off, b0, o0, c0, _, eb, hc0, _⟩ := hg.at_ hF hs.drop (y := 0) (by omega)
    have HC0 := Lib.hid hc0
    have HG := Lib.hid hg
    have HF := Lib.hid hF
    clear hc0 hg hF
    obtain ⟨aR, n', cR, aI, nI, cI, R, I, cy, cx, v1, v2, v3, v4, v5, v6, v7, v8⟩ := g
    obtain rfl : n = n' := hn.symm
    obtain rfl : aR = _ := eb
    go_enter Try.func33, Try.ntmps33
    go_wp2_with (first | (go_at_call 57; refine (row57 (g := ⟨some ⟨b, off, none⟩, n, cR, aI, nI, cI, R, I, cy, cx, v1, v2, v3, v4, v5, v6, v7, v8⟩) hs (by (repeat first | exact HG.out | apply GS.more)) HF.out (by omega)).mono ?_; clear hs; rintro e w ⟨t, rfl, hs⟩) | (go_at_call 58; refine (words_q HLN.out HWS.out HK.out hs).mono ?_; clear hs; rintro e w ⟨aW, cW, rfl, hs⟩) | (go_at_call 52; refine (to52_yes (g := ⟨some ⟨b, off, none⟩, n, cR, aI, nI, cI, R, I, cy, cx, v1, v2, v3, v4, v5, v6, v7, v8⟩) (py := y) (px := 0) hs.b2 (by (repeat first | exact HG.out | apply GS.more)) HF.out HP0.out).mono ?_; clear hs; rintro e w ⟨rfl, hs⟩) | ((with_reducible refine isl ?_); first | ((with_reducible apply ldx); exact rfl; exact rfl; exact rfl; (first | exact hs.b0 | exact hs.b1 | exact hs.b2 | exact hs.b3); exact rfl; kernel_rfl) | ((with_reducible apply stx); exact rfl; exact rfl; exact rfl; (first | exact hs.b0 | exact hs.b1 | exact hs.b2 | exact hs.b3); exact rfl; exact rfl; exact rfl; kernel_rfl; exact rfl; clear hs; intro w hs) | ((with_reducible apply stcx); exact rfl; exact rfl; exact rfl; (first | exact hs.b0 | exact hs.b1 | exact hs.b2 | exact hs.b3); exact rfl; exact rfl; kernel_rfl; exact rfl; clear hs; intro w hs) | ((with_reducible refine wrap hs ?_); clear hs; intro w hs) | ((with_reducible refine wrapn hs ?_); clear hs; intro w hs) | ((with_reducible refine wrapd hs ?_); clear hs; intro w hs)))
    refine end_end0 rfl rfl ?_
    exact ⟨rfl, by refine sb_from ?_ hs; repeat constructor⟩
  · obtain ⟨j, hj⟩ : ∃ j, k = j + 1 := ⟨k - 1, by omega⟩
    obtain ⟨⟨q1, q2⟩, hq⟩ : ∃ q, ws[j]? = some q := ⟨_, List.getElem?_eq_getElem (show j < ws.length by omega)⟩
    have hzz : (z : Int) = (q2 : Int) - 1 ∧ 1 ≤ q2 ∧ q2 ≤ 600 := by
      subst hws
      have h1 := end_last (hk.trans hj) hq
      have h2 := hF.m600
      have h3 := hF.bl_len hy
      rw [hz] at h1
      refine ⟨h1.1, h1.2.1, ?_⟩
      have := h1.2.2
      simp only at this
      omega
    have HZZ := Lib.hid hzz
    have hz2 : (q2 : Int) - 1 = (z : Int) := hzz.1.symm
    have HQ := Lib.hid hq
    have hkp : decide (0 < k) = true := decide_eq_true (by omega)
    have hk1 : (k : Int) - 1 = (j : Int) := by omega
    have hkl : (j : Int) < (k : Int) := by omega
    have hq26 : (q2 : Int) ≤ 600 := by omega
    have hkp3 : 1 ≤ k := by omega
    clear hz hws hk hq hzz hk0 hj
    have hn := (hg.n_eq hF).1
    have h1 := hF.n1
    have h2 := hF.n12
    have h3 := hF.m1
    have h4 := hF.m600
    obtain ⟨b, off, b0, o0, c0, _, eb, hc0, _⟩ := hg.at_ hF hs.drop (y := 0) (by omega)
    have HC0 := Lib.hid hc0
    have HG := Lib.hid hg
    have HF := Lib.hid hF
    clear hc0 hg hF
    obtain ⟨aR, n', cR, aI, nI, cI, R, I, cy, cx, v1, v2, v3, v4, v5, v6, v7, v8⟩ := g
    obtain rfl : n = n' := hn.symm
    obtain rfl : aR = _ := eb
    go_enter Try.func33, Try.ntmps33
    go_upto_region 2 with (first | (go_at_call 57; refine (row57 (g := ⟨some ⟨b, off, none⟩, n, cR, aI, nI, cI, R, I, cy, cx, v1, v2, v3, v4, v5, v6, v7, v8⟩) hs (by (repeat first | exact HG.out | apply GS.more)) HF.out (by omega)).mono ?_; clear hs; rintro e w ⟨t, rfl, hs⟩) | (go_at_call 58; refine (words_q HLN.out HWS.out HK.out hs).mono ?_; clear hs; rintro e w ⟨aW, cW, rfl, hs⟩) | ((with_reducible refine isl ?_); first | ((with_reducible apply ldx); exact rfl; exact rfl; exact rfl; exact hs.b0; exact rfl; kernel_rfl) | ((with_reducible apply stx); exact rfl; exact rfl; exact rfl; exact hs.b0; exact rfl; exact rfl; exact rfl; kernel_rfl; exact rfl; clear hs; intro w hs) | ((with_reducible apply stcx); exact rfl; exact rfl; exact rfl; exact hs.b0; exact rfl; exact rfl; kernel_rfl; exact rfl; clear hs; intro w hs) | ((with_reducible refine wrap hs ?_); clear hs; intro w hs) | ((with_reducible refine wrapn hs ?_); clear hs; intro w hs) | ((with_reducible refine wrapd hs ?_); clear hs; intro w hs)))
    obtain ⟨gW, cW2, e⟩ := hs.b0.own_some (by omega)
    cases e
    go_wp2_with (first | (apply ldc; exact rfl; exact rfl; exact rfl; exact (ext_cell hs.b0 HQ.out) 1 _ rfl; exact one3') | (go_at_call 52; refine (to52_yes (g := ⟨some ⟨b, off, none⟩, n, cR, aI, nI, cI, R, I, cy, cx, v1, v2, v3, v4, v5, v6, v7, v8⟩) (py := y) (px := z) hs.b2 (by (repeat first | exact HG.out | apply GS.more)) HF.out HP.out).mono ?_; clear hs; rintro e w ⟨rfl, hs⟩) | ((with_reducible refine isl ?_); first | ((with_reducible apply ldx); exact rfl; exact rfl; exact rfl; (first | exact hs.b0 | exact hs.b1 | exact hs.b2 | exact hs.b3); exact rfl; kernel_rfl) | ((with_reducible apply stx); exact rfl; exact rfl; exact rfl; (first | exact hs.b0 | exact hs.b1 | exact hs.b2 | exact hs.b3); exact rfl; exact rfl; exact rfl; kernel_rfl; exact rfl; clear hs; intro w hs) | ((with_reducible apply stcx); exact rfl; exact rfl; exact rfl; (first | exact hs.b0 | exact hs.b1 | exact hs.b2 | exact hs.b3); exact rfl; exact rfl; kernel_rfl; exact rfl; clear hs; intro w hs) | ((with_reducible refine wrap hs ?_); clear hs; intro w hs) | ((with_reducible refine wrapn hs ?_); clear hs; intro w hs) | ((with_reducible refine wrapd hs ?_); clear hs; intro w hs)))
    refine end_end0 rfl rfl ?_
    exact ⟨rfl, by refine sb_from ?_ hs; repeat constructor⟩
end Go.Proofs.Ytcheljogpffabaa
