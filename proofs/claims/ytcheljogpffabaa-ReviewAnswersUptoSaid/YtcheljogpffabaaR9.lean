/- Law 21: may a grid be reviewed; the place is held. -/
import Derived.Test.YtcheljogpffabaaSf
import Derived.Test.YtcheljogpffabaaR8
namespace Go.Proofs.Ytcheljogpffabaa
open Go.RowKit Go.Mem Go.Words Go.Deep Go.Rev
variable {W w : World} {H : List HProp} {g : Gm} {n m : Nat}
/-- What is looked at. -/
structure Lim (g : Gm) : Prop where
  n12 : g.n ≤ 12
  i20 : g.nI ≤ 20
  sz : ∀ r ∈ g.gd.rows, size r ≤ 600
theorem Lim.fit (h : Lim g) (hg : GS W H g) (hm : mayG g.gd = true) : Fit g.gd g.n g.gd.m := by
  have h1 := hg.gn.1
  have := fit_of hm (by rw [h1]; exact h.n12) h.sz
  rwa [h1] at this
theorem GS.rk2 (hg : GS W H g) {y : Nat} {r : Rw} (hr : g.R[y]? = some r) : g.gd.rows[y]? = some (cl r.L) ∧ r.k = (cl r.L).length := by
  have h1 := (hg.each r (List.mem_of_getElem? hr)).len.1
  refine ⟨by unfold Gm.gd; simp [hr], ?_⟩
  rw [h1]; simp [cl]
attribute [local irreducible] rowTy oneTy World.setCell World.setCells World.alloc World.drew World.drewN Calls sat cel own blk old wpQuiet wpList tx
set_option maxHeartbeats 1000000 in
theorem may50 {z k c : Nat} {a0 : Option Addr} {b off m0 c0 : Nat} {ra : Option Addr} (hs : sat W (cel z 34 (gV g) :: H) w) (eb : g.aR = some ⟨b, off, none⟩) (h1 : 1 ≤ g.n) (hc0 : ∀ w', sat W H w' → w'.cell? ⟨b, off, none⟩ = some (.slice a0 m0 c0)) :
    Calls Try.prog 50 #[.slice ra k c, .pointer (some ⟨z, 0, none⟩)] w fun e w' => e = .returned (.bool (decide ((k : Int) ≠ m0))) ∧ sat W (cel z 34 (gV g) :: H) w' := by
  have HC0 := Lib.hid hc0
  have h19 : (0 : Int) < (g.n : Int) := by omega
  clear hc0
  obtain ⟨aR, n, cR, aI, nI, cI, R, I, cy, cx, v1, v2, v3, v4, v5, v6, v7, v8⟩ := g
  obtain rfl : aR = _ := eb
  by_cases hk : k = m0
  · have hk2 : ((k : Int) != (m0 : Int)) = false := by simp [hk]
    have hk3 : decide ((k : Int) ≠ m0) = false := by simp [hk]
    rw [hk3]
    clear hk hk3
    go_enter Try.func50, Try.ntmps50
    go_wp2_with (first | (apply ldc; exact rfl; exact rfl; exact rfl; (first | exact HC0.out _ (hs.dropN 0) | exact HC0.out _ (hs.dropN 1) | exact HC0.out _ (hs.dropN 2) | exact HC0.out _ (hs.dropN 3) | exact HC0.out _ (hs.dropN 4) | exact HC0.out _ (hs.dropN 5) | exact HC0.out _ (hs.dropN 6) | exact HC0.out _ (hs.dropN 7)); exact one57) | ((with_reducible refine isl ?_); first | ((with_reducible apply ldx); exact rfl; exact rfl; exact rfl; exact hs.b0; exact rfl; kernel_rfl) | ((with_reducible apply stx); exact rfl; exact rfl; exact rfl; exact hs.b0; exact rfl; exact rfl; exact rfl; kernel_rfl; exact rfl; clear hs; intro w hs) | ((with_reducible apply stcx); exact rfl; exact rfl; exact rfl; exact hs.b0; exact rfl; exact rfl; kernel_rfl; exact rfl; clear hs; intro w hs) | ((with_reducible refine wrap hs ?_); clear hs; intro w hs) | ((with_reducible refine wrapn hs ?_); clear hs; intro w hs) | ((with_reducible refine wrapd hs ?_); clear hs; intro w hs)))
    go_ret
    exact ⟨rfl, hs⟩
  · have hk2 : ((k : Int) != (m0 : Int)) = true := by simp; omega
    have hk3 : decide ((k : Int) ≠ m0) = true := by simp; omega
    rw [hk3]
    clear hk hk3
    go_enter Try.func50, Try.ntmps50
    go_wp2_with (first | (apply ldc; exact rfl; exact rfl; exact rfl; (first | exact HC0.out _ (hs.dropN 0) | exact HC0.out _ (hs.dropN 1) | exact HC0.out _ (hs.dropN 2) | exact HC0.out _ (hs.dropN 3) | exact HC0.out _ (hs.dropN 4) | exact HC0.out _ (hs.dropN 5) | exact HC0.out _ (hs.dropN 6) | exact HC0.out _ (hs.dropN 7)); exact one57) | ((with_reducible refine isl ?_); first | ((with_reducible apply ldx); exact rfl; exact rfl; exact rfl; exact hs.b0; exact rfl; kernel_rfl) | ((with_reducible apply stx); exact rfl; exact rfl; exact rfl; exact hs.b0; exact rfl; exact rfl; exact rfl; kernel_rfl; exact rfl; clear hs; intro w hs) | ((with_reducible apply stcx); exact rfl; exact rfl; exact rfl; exact hs.b0; exact rfl; exact rfl; kernel_rfl; exact rfl; clear hs; intro w hs) | ((with_reducible refine wrap hs ?_); clear hs; intro w hs) | ((with_reducible refine wrapn hs ?_); clear hs; intro w hs) | ((with_reducible refine wrapd hs ?_); clear hs; intro w hs)))
    go_ret
    exact ⟨rfl, hs⟩
set_option maxHeartbeats 2000000 in
theorem index67 {z : Nat} (hs : sat W (cel z 34 (gV g) :: H) w) (hg : GS W H g) (hl : Lim g) (h1 : 1 ≤ g.n) :
    Calls Try.prog 67 #[.slice g.aR g.n g.cR, .func (.func 50) #[] #[.pointer (some ⟨z, 0, none⟩)]] w fun e w' => ∃ i : Int, e = .returned (.int .i64 i) ∧ decide (0 ≤ i) = !(g.gd.rows.all fun r => decide (r.length = g.gd.m)) ∧ sat W (cel z 34 (gV g) :: H) w' := by
  have HG := Lib.hid hg
  have h12 := hl.n12
  obtain ⟨r0, hr0, er0, _, b, off, eb, hc0⟩ := hg.row hs.drop (y := 0) h1
  obtain ⟨m0, hm0⟩ : ∃ m0, r0.k = m0 := ⟨_, rfl⟩
  have hm : g.gd.m = m0 := by
    have := (hg.rk2 hr0)
    unfold Gd.m
    rw [List.getD_eq_getElem?_getD, this.1, ← hm0, this.2]; rfl
  have HC0 : Hid (∀ w', sat W H w' → w'.cell? ⟨b, off, none⟩ = some (.slice r0.a m0 r0.c)) := Lib.hid (fun w' hw => by have := hc0 w' hw; rw [← hm0]; exact this)
  have HN := Lib.hid hg.gn.1
  have HM := Lib.hid hm
  clear hc0 hr0 er0 hm hm0 hl hg
  obtain ⟨aR, n, cR, aI, nI, cI, R, I, cy, cx, v1, v2, v3, v4, v5, v6, v7, v8⟩ := g
  obtain rfl : aR = _ := eb
  simp only at h1 h12
  go_enter Try.func67, Try.ntmps67
  go_wp2
  go_loopw [8] (fun iv wr => ∃ k : Nat, k ≤ n ∧ iv = .int .i64 (k : Int) ∧ Hid (∀ j r, j < k → (Gm.gd ⟨some ⟨b, off, none⟩, n, cR, aI, nI, cI, R, I, cy, cx, v1, v2, v3, v4, v5, v6, v7, v8⟩).rows[j]? = some r → r.length = m0) ∧ sat W (cel z 34 (gV ⟨some ⟨b, off, none⟩, n, cR, aI, nI, cI, R, I, cy, cx, v1, v2, v3, v4, v5, v6, v7, v8⟩) :: H) wr) (fun iv _ => ((n : Int) - intOf iv).toNat)
  case atStart => exact ⟨0, Nat.zero_le _, rfl, Lib.hid (fun j r h => absurd h (Nat.not_lt_zero _)), hs⟩
  case round =>
    clear hs
    obtain ⟨k, hk, rfl, HA, hs⟩ := hrel
    by_cases hlt : k < n
    · obtain ⟨r, hr, er, _, b', off', eb', hc⟩ := HG.out.row hs.drop hlt
      obtain ⟨rfl, rfl⟩ : b = b' ∧ off = off' := by cases eb'; exact ⟨rfl, rfl⟩
      have HC := Lib.hid hc
      have HR := Lib.hid (HG.out.rk2 hr)
      obtain ⟨ra, rk, rc, rL⟩ := r
      have hkn : (k : Int) < (n : Int) := by omega
      have hs8 := hs
      clear hc hr er eb'
      by_cases hkm : rk = m0
      · have hb : decide ((rk : Int) ≠ m0) = false := by simp [hkm]
        have HA2 : Hid (∀ j r, j < k + 1 → (Gm.gd ⟨some ⟨b, off, none⟩, n, cR, aI, nI, cI, R, I, cy, cx, v1, v2, v3, v4, v5, v6, v7, v8⟩).rows[j]? = some r → r.length = m0) := Lib.hid (fun j r hj hjr => by
          by_cases h : j < k
          · exact HA.out j r h hjr
          · obtain rfl : j = k := by omega
            rw [HR.out.1] at hjr
            cases hjr
            rw [← HR.out.2]; exact hkm)
        clear hkm
        go_wp2_with (first | (apply ldc; exact rfl; exact rfl; exact rfl; exact HC.out _ hs.drop; exact one57) | (go_at_call 50; refine (may50 (g := ⟨some ⟨b, off, none⟩, n, cR, aI, nI, cI, R, I, cy, cx, v1, v2, v3, v4, v5, v6, v7, v8⟩) hs rfl h1 HC0.out).mono ?_; clear hs; rintro e w ⟨rfl, hs⟩; rw [hb]) | ((with_reducible refine isl ?_); first | ((with_reducible refine wrap hs ?_); clear hs; intro w hs) | ((with_reducible refine wrapn hs ?_); clear hs; intro w hs) | ((with_reducible refine wrapd hs ?_); clear hs; intro w hs)))
        go_roundw
        case rel => exact ⟨k + 1, hlt, by go_num, HA2, hs⟩
        case measure => simp [intOf]; omega
      · have hb : decide ((rk : Int) ≠ m0) = true := by simp; omega
        have HQ : Hid (decide (0 ≤ (k : Int)) = !((Gm.gd ⟨some ⟨b, off, none⟩, n, cR, aI, nI, cI, R, I, cy, cx, v1, v2, v3, v4, v5, v6, v7, v8⟩).rows.all fun r => decide (r.length = (Gm.gd ⟨some ⟨b, off, none⟩, n, cR, aI, nI, cI, R, I, cy, cx, v1, v2, v3, v4, v5, v6, v7, v8⟩).m))) := Lib.hid (by
          have : ((Gm.gd ⟨some ⟨b, off, none⟩, n, cR, aI, nI, cI, R, I, cy, cx, v1, v2, v3, v4, v5, v6, v7, v8⟩).rows.all fun r => decide (r.length = (Gm.gd ⟨some ⟨b, off, none⟩, n, cR, aI, nI, cI, R, I, cy, cx, v1, v2, v3, v4, v5, v6, v7, v8⟩).m)) = false := by
            rw [List.all_eq_false]
            refine ⟨_, List.mem_of_getElem? HR.out.1, ?_⟩
            rw [HM.out, ← HR.out.2]
            simpa using hkm
          rw [this]; simp)
        clear hkm
        go_wp2_with (first | (apply ldc; exact rfl; exact rfl; exact rfl; exact HC.out _ hs.drop; exact one57) | (go_at_call 50; refine (may50 (g := ⟨some ⟨b, off, none⟩, n, cR, aI, nI, cI, R, I, cy, cx, v1, v2, v3, v4, v5, v6, v7, v8⟩) hs rfl h1 HC0.out).mono ?_; clear hs; rintro e w ⟨rfl, hs⟩; rw [hb]) | ((with_reducible refine isl ?_); first | ((with_reducible refine wrap hs ?_); clear hs; intro w hs) | ((with_reducible refine wrapn hs ?_); clear hs; intro w hs) | ((with_reducible refine wrapd hs ?_); clear hs; intro w hs)))
        go_ret
        exact ⟨_, rfl, HQ.out, hs⟩
    · obtain rfl : n = k := by omega
      go_wp2
      go_ret
      refine ⟨_, rfl, ?_, hs⟩
      have : ((Gm.gd ⟨some ⟨b, off, none⟩, n, cR, aI, nI, cI, R, I, cy, cx, v1, v2, v3, v4, v5, v6, v7, v8⟩).rows.all fun r => decide (r.length = (Gm.gd ⟨some ⟨b, off, none⟩, n, cR, aI, nI, cI, R, I, cy, cx, v1, v2, v3, v4, v5, v6, v7, v8⟩).m)) = true := by
        rw [List.all_eq_true]
        intro r hr
        obtain ⟨j, hj⟩ := List.mem_iff_getElem?.1 hr
        have hjl := (List.getElem?_eq_some_iff.1 hj).1
        rw [HN.out] at hjl
        rw [HM.out]
        simpa using HA.out j r hjl hj
      rw [this]; rfl
end Go.Proofs.Ytcheljogpffabaa
