/- Law 21: may; where an id stands; Hold, Place, New. -/
import Derived.Test.YtcheljogpffabaaSf
import Derived.Test.YtcheljogpffabaaR9
namespace Go.Proofs.Ytcheljogpffabaa
open Go.RowKit Go.Mem Go.Words Go.Deep Go.Rev
variable {W w : World} {H : List HProp} {g : Gm} {n m : Nat}
theorem contains49 {z : Nat} (hs : sat W (cel z 34 (gV g) :: H) w) (hg : GS W H g) (hl : Lim g) (h1 : 1 ≤ g.n) :
    Calls Try.prog 49 #[.slice g.aR g.n g.cR, .func (.func 50) #[] #[.pointer (some ⟨z, 0, none⟩)]] w fun e w' => e = .returned (.bool (!(g.gd.rows.all fun r => decide (r.length = g.gd.m)))) ∧ sat W (cel z 34 (gV g) :: H) w' := by
  have HG := Lib.hid hg
  have HL := Lib.hid hl
  clear hg hl
  go_enter Try.func49, Try.ntmps49
  go_wp2_with (first | (go_at_call 67; refine (index67 hs HG.out HL.out h1).mono ?_; clear hs; rintro e w ⟨i, rfl, hi, hs⟩) | ((with_reducible refine isl ?_); first | ((with_reducible refine wrap hs ?_); clear hs; intro w hs) | ((with_reducible refine wrapn hs ?_); clear hs; intro w hs) | ((with_reducible refine wrapd hs ?_); clear hs; intro w hs)))
  go_ret
  exact ⟨by rw [← hi]; rfl, hs⟩
theorem contains49_b {z : Nat} {q : Bool} (hs : sat W (cel z 34 (gV g) :: H) w) (hg : GS W H g) (hl : Lim g) (h1 : 1 ≤ g.n) (hq : (g.gd.rows.all fun r => decide (r.length = g.gd.m)) = q) :
    Calls Try.prog 49 #[.slice g.aR g.n g.cR, .func (.func 50) #[] #[.pointer (some ⟨z, 0, none⟩)]] w fun e w' => e = .returned (.bool (!q)) ∧ sat W (cel z 34 (gV g) :: H) w' := hq ▸ contains49 hs hg hl h1
attribute [local irreducible] rowTy oneTy World.setCell World.setCells World.alloc World.drew World.drewN Calls sat cel own blk old wpQuiet wpList tx
set_option maxHeartbeats 2000000 in
set_option maxRecDepth 20000 in
theorem may22 {q : Bool} (hs : sat W H w) (hg : GS W H g) (hl : Lim g) (hq : mayG g.gd = q) :
    Calls Try.prog 22 #[.agg (gV g).toArray] w fun e w' => e = .returned (.bool q) ∧ sat W H w' := by
  have HG := Lib.hid hg
  have HL := Lib.hid hl
  have h12 := hl.n12
  have h20 := hl.i20
  have hgn := hg.gn
  unfold mayG at hq
  rw [hgn.1, hgn.2] at hq
  by_cases h0 : g.n = 0
  · obtain rfl : false = q := by rw [← hq]; simp [h0]
    have e0 : decide (g.n = 0) = true := decide_eq_true h0
    have e1 : ((g.n : Int) == 0) = true := by simp [h0]
    clear hq hgn hg hl h0
    obtain ⟨aR, n, cR, aI, nI, cI, R, I, cy, cx, v1, v2, v3, v4, v5, v6, v7, v8⟩ := g
    simp only at h12 h20 e0 e1
    go_enter Try.func22, Try.ntmps22
    go_wp2_with (first | (apply ldc; exact rfl; exact rfl; exact rfl; (first | exact HC0.out _ (hs.dropN 0) | exact HC0.out _ (hs.dropN 1) | exact HC0.out _ (hs.dropN 2) | exact HC0.out _ (hs.dropN 3) | exact HC0.out _ (hs.dropN 4) | exact HC0.out _ (hs.dropN 5) | exact HC0.out _ (hs.dropN 6) | exact HC0.out _ (hs.dropN 7)); exact one57) | ((with_reducible refine isl ?_); first | ((with_reducible apply stswx); exact rfl; exact rfl; exact rfl; (first | exact hs.b0 | exact hs.b1); exact rfl; exact row34; exact rfl; exact rfl; exact rfl; clear hs; intro w hs) | ((with_reducible apply ldswx); exact rfl; exact rfl; exact rfl; (first | exact hs.b0 | exact hs.b1 | exact hs.b2); exact row34) | ((with_reducible apply ldx); exact rfl; exact rfl; exact rfl; (first | exact hs.b0 | exact hs.b1); exact rfl; kernel_rfl) | ((with_reducible apply stx); exact rfl; exact rfl; exact rfl; (first | exact hs.b0 | exact hs.b1); exact rfl; exact rfl; exact rfl; kernel_rfl; exact rfl; clear hs; intro w hs) | ((with_reducible apply stcx); exact rfl; exact rfl; exact rfl; (first | exact hs.b0 | exact hs.b1); exact rfl; exact rfl; kernel_rfl; exact rfl; clear hs; intro w hs) | ((with_reducible refine wrap hs ?_); clear hs; (first | generalize w.heap.size = z1); intro w hs) | ((with_reducible refine wrap hs ?_); clear hs; intro w hs) | ((with_reducible refine wrapn hs ?_); clear hs; intro w hs) | ((with_reducible refine wrapd hs ?_); clear hs; intro w hs)))
    go_ret
    exact ⟨rfl, hs.drop⟩
  · have e0 : ((g.n : Int) == 0) = false := by simp; omega
    by_cases hi : g.nI = g.n
    · have e1 : ((g.nI : Int) != (g.n : Int)) = false := by simp; omega
      obtain ⟨r0, hr0, er0, _, b, off, eb, hc0⟩ := hg.row hs (y := 0) (by omega)
      obtain ⟨m0, hm0⟩ : ∃ m0, r0.k = m0 := ⟨_, rfl⟩
      have hm : g.gd.m = m0 := by
        have := (hg.rk2 hr0)
        unfold Gd.m
        rw [List.getD_eq_getElem?_getD, this.1, ← hm0, this.2]; rfl
      have HC0 : Hid (∀ w', sat W H w' → w'.cell? ⟨b, off, none⟩ = some (.slice r0.a m0 r0.c)) := Lib.hid (fun w' hw => by have := hc0 w' hw; rw [← hm0]; exact this)
      have h19 : (0 : Int) < (g.n : Int) := by omega
      have h1 : 1 ≤ g.n := by omega
      by_cases hm1 : m0 = 0
      · obtain rfl : false = q := by rw [← hq]; simp [h0, hi, hm, hm1]
        have e2 : ((m0 : Int) == 0) = true := by simp [hm1]
        clear hq hgn hg hl h0 hc0 hr0 er0 hm hm0 hm1 hi
        obtain ⟨aR, n, cR, aI, nI, cI, R, I, cy, cx, v1, v2, v3, v4, v5, v6, v7, v8⟩ := g
        obtain rfl : aR = _ := eb
        simp only at h12 h20 e0 e1 h19 h1
        go_enter Try.func22, Try.ntmps22
        go_wp2_with (first | (apply ldc; exact rfl; exact rfl; exact rfl; (first | exact HC0.out _ (hs.dropN 0) | exact HC0.out _ (hs.dropN 1) | exact HC0.out _ (hs.dropN 2) | exact HC0.out _ (hs.dropN 3) | exact HC0.out _ (hs.dropN 4) | exact HC0.out _ (hs.dropN 5) | exact HC0.out _ (hs.dropN 6) | exact HC0.out _ (hs.dropN 7)); exact one57) | ((with_reducible refine isl ?_); first | ((with_reducible apply stswx); exact rfl; exact rfl; exact rfl; (first | exact hs.b0 | exact hs.b1); exact rfl; exact row34; exact rfl; exact rfl; exact rfl; clear hs; intro w hs) | ((with_reducible apply ldswx); exact rfl; exact rfl; exact rfl; (first | exact hs.b0 | exact hs.b1 | exact hs.b2); exact row34) | ((with_reducible apply ldx); exact rfl; exact rfl; exact rfl; (first | exact hs.b0 | exact hs.b1); exact rfl; kernel_rfl) | ((with_reducible apply stx); exact rfl; exact rfl; exact rfl; (first | exact hs.b0 | exact hs.b1); exact rfl; exact rfl; exact rfl; kernel_rfl; exact rfl; clear hs; intro w hs) | ((with_reducible apply stcx); exact rfl; exact rfl; exact rfl; (first | exact hs.b0 | exact hs.b1); exact rfl; exact rfl; kernel_rfl; exact rfl; clear hs; intro w hs) | ((with_reducible refine wrap hs ?_); clear hs; (first | generalize w.heap.size = z1); intro w hs) | ((with_reducible refine wrap hs ?_); clear hs; intro w hs) | ((with_reducible refine wrapn hs ?_); clear hs; intro w hs) | ((with_reducible refine wrapd hs ?_); clear hs; intro w hs)))
        go_ret
        exact ⟨rfl, hs.drop⟩
      · have HQ : Hid ((g.gd.rows.all fun r => decide (r.length = g.gd.m)) = q) := Lib.hid (by rw [← hq]; simp [h0, hi, hm, hm1])
        have e2 : ((m0 : Int) == 0) = false := by simp; omega
        clear hq hgn hg hl h0 hc0 hr0 er0 hm hm0 hm1 hi
        obtain ⟨aR, n, cR, aI, nI, cI, R, I, cy, cx, v1, v2, v3, v4, v5, v6, v7, v8⟩ := g
        obtain rfl : aR = _ := eb
        simp only at h12 h20 e0 e1 h19 h1
        cases q
        · skip
          go_enter Try.func22, Try.ntmps22
          go_wp2_with (first | (apply ldc; exact rfl; exact rfl; exact rfl; (first | exact HC0.out _ (hs.dropN 0) | exact HC0.out _ (hs.dropN 1) | exact HC0.out _ (hs.dropN 2) | exact HC0.out _ (hs.dropN 3) | exact HC0.out _ (hs.dropN 4) | exact HC0.out _ (hs.dropN 5) | exact HC0.out _ (hs.dropN 6) | exact HC0.out _ (hs.dropN 7)); exact one57) | (go_at_call 49; refine (contains49_b (g := ⟨some ⟨b, off, none⟩, n, cR, aI, nI, cI, R, I, cy, cx, v1, v2, v3, v4, v5, v6, v7, v8⟩) hs HG.out HL.out h1 HQ.out).mono ?_; clear hs; rintro e w ⟨rfl, hs⟩) | ((with_reducible refine isl ?_); first | ((with_reducible apply stswx); exact rfl; exact rfl; exact rfl; (first | exact hs.b0 | exact hs.b1); exact rfl; exact row34; exact rfl; exact rfl; exact rfl; clear hs; intro w hs) | ((with_reducible apply ldswx); exact rfl; exact rfl; exact rfl; (first | exact hs.b0 | exact hs.b1 | exact hs.b2); exact row34) | ((with_reducible apply ldx); exact rfl; exact rfl; exact rfl; (first | exact hs.b0 | exact hs.b1); exact rfl; kernel_rfl) | ((with_reducible apply stx); exact rfl; exact rfl; exact rfl; (first | exact hs.b0 | exact hs.b1); exact rfl; exact rfl; exact rfl; kernel_rfl; exact rfl; clear hs; intro w hs) | ((with_reducible apply stcx); exact rfl; exact rfl; exact rfl; (first | exact hs.b0 | exact hs.b1); exact rfl; exact rfl; kernel_rfl; exact rfl; clear hs; intro w hs) | ((with_reducible refine wrap hs ?_); clear hs; (first | generalize w.heap.size = z1); intro w hs) | ((with_reducible refine wrap hs ?_); clear hs; intro w hs) | ((with_reducible refine wrapn hs ?_); clear hs; intro w hs) | ((with_reducible refine wrapd hs ?_); clear hs; intro w hs)))
          go_ret
          exact ⟨rfl, hs.drop⟩
        · skip
          go_enter Try.func22, Try.ntmps22
          go_wp2_with (first | (apply ldc; exact rfl; exact rfl; exact rfl; (first | exact HC0.out _ (hs.dropN 0) | exact HC0.out _ (hs.dropN 1) | exact HC0.out _ (hs.dropN 2) | exact HC0.out _ (hs.dropN 3) | exact HC0.out _ (hs.dropN 4) | exact HC0.out _ (hs.dropN 5) | exact HC0.out _ (hs.dropN 6) | exact HC0.out _ (hs.dropN 7)); exact one57) | (go_at_call 49; refine (contains49_b (g := ⟨some ⟨b, off, none⟩, n, cR, aI, nI, cI, R, I, cy, cx, v1, v2, v3, v4, v5, v6, v7, v8⟩) hs HG.out HL.out h1 HQ.out).mono ?_; clear hs; rintro e w ⟨rfl, hs⟩) | ((with_reducible refine isl ?_); first | ((with_reducible apply stswx); exact rfl; exact rfl; exact rfl; (first | exact hs.b0 | exact hs.b1); exact rfl; exact row34; exact rfl; exact rfl; exact rfl; clear hs; intro w hs) | ((with_reducible apply ldswx); exact rfl; exact rfl; exact rfl; (first | exact hs.b0 | exact hs.b1 | exact hs.b2); exact row34) | ((with_reducible apply ldx); exact rfl; exact rfl; exact rfl; (first | exact hs.b0 | exact hs.b1); exact rfl; kernel_rfl) | ((with_reducible apply stx); exact rfl; exact rfl; exact rfl; (first | exact hs.b0 | exact hs.b1); exact rfl; exact rfl; exact rfl; kernel_rfl; exact rfl; clear hs; intro w hs) | ((with_reducible apply stcx); exact rfl; exact rfl; exact rfl; (first | exact hs.b0 | exact hs.b1); exact rfl; exact rfl; kernel_rfl; exact rfl; clear hs; intro w hs) | ((with_reducible refine wrap hs ?_); clear hs; (first | generalize w.heap.size = z1); intro w hs) | ((with_reducible refine wrap hs ?_); clear hs; intro w hs) | ((with_reducible refine wrapn hs ?_); clear hs; intro w hs) | ((with_reducible refine wrapd hs ?_); clear hs; intro w hs)))
          go_ret
          exact ⟨rfl, hs.drop⟩
    · obtain rfl : false = q := by rw [← hq]; simp [hi]
      have e1 : ((g.nI : Int) != (g.n : Int)) = true := by simp; omega
      clear hq hgn hg hl h0 hi
      obtain ⟨aR, n, cR, aI, nI, cI, R, I, cy, cx, v1, v2, v3, v4, v5, v6, v7, v8⟩ := g
      simp only at h12 h20 e0 e1
      go_enter Try.func22, Try.ntmps22
      go_wp2_with (first | (apply ldc; exact rfl; exact rfl; exact rfl; (first | exact HC0.out _ (hs.dropN 0) | exact HC0.out _ (hs.dropN 1) | exact HC0.out _ (hs.dropN 2) | exact HC0.out _ (hs.dropN 3) | exact HC0.out _ (hs.dropN 4) | exact HC0.out _ (hs.dropN 5) | exact HC0.out _ (hs.dropN 6) | exact HC0.out _ (hs.dropN 7)); exact one57) | ((with_reducible refine isl ?_); first | ((with_reducible apply stswx); exact rfl; exact rfl; exact rfl; (first | exact hs.b0 | exact hs.b1); exact rfl; exact row34; exact rfl; exact rfl; exact rfl; clear hs; intro w hs) | ((with_reducible apply ldswx); exact rfl; exact rfl; exact rfl; (first | exact hs.b0 | exact hs.b1 | exact hs.b2); exact row34) | ((with_reducible apply ldx); exact rfl; exact rfl; exact rfl; (first | exact hs.b0 | exact hs.b1); exact rfl; kernel_rfl) | ((with_reducible apply stx); exact rfl; exact rfl; exact rfl; (first | exact hs.b0 | exact hs.b1); exact rfl; exact rfl; exact rfl; kernel_rfl; exact rfl; clear hs; intro w hs) | ((with_reducible apply stcx); exact rfl; exact rfl; exact rfl; (first | exact hs.b0 | exact hs.b1); exact rfl; exact rfl; kernel_rfl; exact rfl; clear hs; intro w hs) | ((with_reducible refine wrap hs ?_); clear hs; (first | generalize w.heap.size = z1); intro w hs) | ((with_reducible refine wrap hs ?_); clear hs; intro w hs) | ((with_reducible refine wrapn hs ?_); clear hs; intro w hs) | ((with_reducible refine wrapd hs ?_); clear hs; intro w hs)))
      go_ret
      exact ⟨rfl, hs.drop⟩
def idxV : Option Nat → Int
  | some i => i
  | none => -1
set_option maxHeartbeats 1000000 in
theorem index23 {id : Int} {v : Option Nat} (hs : sat W H w) (hg : GS W H g) (h20 : g.nI ≤ 20) (hv : findId g.gd.ids id = v) :
    Calls Try.prog 23 #[.slice g.aI g.nI g.cI, .int .i64 id] w fun e w' => e = .returned (.int .i64 (idxV v)) ∧ sat W H w' := by
  have HG := Lib.hid hg
  have HV := Lib.hid hv
  have HN := Lib.hid hg.gn.2
  by_cases hz : g.nI = 0
  · have hvn : v = none := by
      rw [← hv]
      cases hf : findId g.gd.ids id with
      | none => rfl
      | some i =>
        obtain ⟨h1, _, _⟩ := find_lt hf
        rw [HN.out] at h1
        omega
    subst hvn
    have hz2 : ¬ (0 : Int) < (g.nI : Int) := by omega
    clear hg hv HV hz
    obtain ⟨aR, n, cR, aI, nI, cI, R, I, cy, cx, v1, v2, v3, v4, v5, v6, v7, v8⟩ := g
    simp only at h20 hz2
    go_enter Try.func23, Try.ntmps23
    go_wp2
    go_loopw [8] (fun iv wr => iv = .int .i64 0 ∧ sat W H wr) (fun _ _ => 0)
    case atStart => exact ⟨rfl, hs⟩
    case round =>
      clear hs
      obtain ⟨rfl, hs⟩ := hrel
      go_wp2
      go_ret
      exact ⟨rfl, hs⟩
  obtain ⟨_, b, off, eb, _⟩ := hg.id hs (y := 0) (by omega)
  clear hg hv hz
  obtain ⟨aR, n, cR, aI, nI, cI, R, I, cy, cx, v1, v2, v3, v4, v5, v6, v7, v8⟩ := g
  obtain rfl : aI = _ := eb
  simp only at h20
  go_enter Try.func23, Try.ntmps23
  go_wp2
  go_loopw [8] (fun iv wr => ∃ k : Nat, k ≤ nI ∧ iv = .int .i64 (k : Int) ∧ Hid (∀ j, j < k → I[j]? ≠ some id) ∧ sat W H wr) (fun iv _ => ((nI : Int) - intOf iv).toNat)
  case atStart => exact ⟨0, Nat.zero_le _, rfl, Lib.hid (fun j h => absurd h (Nat.not_lt_zero _)), hs⟩
  case round =>
    clear hs
    obtain ⟨k, hk, rfl, HA, hs⟩ := hrel
    by_cases hlt : k < nI
    · obtain ⟨hk1, b', off', eb, hc⟩ := HG.out.id hs hlt
      obtain ⟨rfl, rfl⟩ : b = b' ∧ off = off' := by cases eb; exact ⟨rfl, rfl⟩
      obtain ⟨idk, hidk⟩ : ∃ q, Gd.id (Gm.gd ⟨aR, n, cR, some ⟨b, off, none⟩, nI, cI, R, I, cy, cx, v1, v2, v3, v4, v5, v6, v7, v8⟩) k = q := ⟨_, rfl⟩
      rw [hidk] at hk1 hc
      have HC := Lib.hid hc
      have HK := Lib.hid hk1
      have hkn : (k : Int) < (nI : Int) := by omega
      clear hc hk1 hidk eb
      by_cases he : id = idk
      · have HV2 : Hid (v = some k) := Lib.hid (by rw [← HV.out]; exact Go.Rev.find_at (by rw [he]; exact HK.out) HA.out)
        have he2 : (id == idk) = true := by simpa using he
        clear he
        go_wp2_with (first | (apply ldc; exact rfl; exact rfl; exact rfl; (first | exact HC.out _ (hs.dropN 0) | exact HC.out _ (hs.dropN 1) | exact HC.out _ (hs.dropN 2) | exact HC.out _ (hs.dropN 3) | exact HC.out _ (hs.dropN 4) | exact HC.out _ (hs.dropN 5) | exact HC.out _ (hs.dropN 6) | exact HC.out _ (hs.dropN 7)); exact one3') | ((with_reducible refine isl ?_); first | ((with_reducible refine wrap hs ?_); clear hs; intro w hs) | ((with_reducible refine wrapn hs ?_); clear hs; intro w hs) | ((with_reducible refine wrapd hs ?_); clear hs; intro w hs)))
        go_ret
        exact ⟨by rw [HV2.out]; rfl, hs⟩
      · have HA2 : Hid (∀ j, j < k + 1 → I[j]? ≠ some id) := Lib.hid (fun j hj hji => by
          by_cases h : j < k
          · exact HA.out j h hji
          · obtain rfl : j = k := by omega
            have := HK.out
            simp only at this
            rw [this] at hji
            exact he (by cases hji; rfl))
        have he2 : (id == idk) = false := by simpa using he
        clear he
        go_wp2_with (first | (apply ldc; exact rfl; exact rfl; exact rfl; (first | exact HC.out _ (hs.dropN 0) | exact HC.out _ (hs.dropN 1) | exact HC.out _ (hs.dropN 2) | exact HC.out _ (hs.dropN 3) | exact HC.out _ (hs.dropN 4) | exact HC.out _ (hs.dropN 5) | exact HC.out _ (hs.dropN 6) | exact HC.out _ (hs.dropN 7)); exact one3') | ((with_reducible refine isl ?_); first | ((with_reducible refine wrap hs ?_); clear hs; intro w hs) | ((with_reducible refine wrapn hs ?_); clear hs; intro w hs) | ((with_reducible refine wrapd hs ?_); clear hs; intro w hs)))
        go_roundw
        case rel => exact ⟨k + 1, hlt, by go_num, HA2, hs⟩
        case measure => simp [intOf]; omega
    · obtain rfl : nI = k := by omega
      go_wp2
      go_ret
      have : v = none := by
        rw [← HV.out]
        cases hf : findId (Gm.gd ⟨aR, n, cR, some ⟨b, off, none⟩, nI, cI, R, I, cy, cx, v1, v2, v3, v4, v5, v6, v7, v8⟩).ids id with
        | none => rfl
        | some i =>
          obtain ⟨h1, h2, _⟩ := find_lt hf
          rw [HN.out] at h1
          exact absurd h2 (HA.out i h1)
      subst this
      exact ⟨rfl, hs⟩
theorem index23_none {id : Int} (hs : sat W H w) (hg : GS W H g) (h20 : g.nI ≤ 20) (hv : findId g.gd.ids id = none) :
    Calls Try.prog 23 #[.slice g.aI g.nI g.cI, .int .i64 id] w fun e w' => e = .returned (.int .i64 (-1)) ∧ sat W H w' := index23 hs hg h20 hv
theorem index23_some {id : Int} {i : Nat} (hs : sat W H w) (hg : GS W H g) (h20 : g.nI ≤ 20) (hv : findId g.gd.ids id = some i) :
    Calls Try.prog 23 #[.slice g.aI g.nI g.cI, .int .i64 id] w fun e w' => e = .returned (.int .i64 i) ∧ sat W H w' := index23 hs hg h20 hv
theorem new10 (hs : sat W H w) : Calls Try.prog 10 #[] w fun e w' => ∃ v, e = .returned (.pointer (some ⟨v, 0, none⟩)) ∧ sat W (cel v 65 (plL ⟨0, 0, 0⟩) :: H) w' := by
  go_enter Try.func10, Try.ntmps10
  go_wp2_with (first | ((with_reducible refine isl ?_); first | ((with_reducible apply stswx); exact rfl; exact rfl; exact rfl; (first | exact hs.b0 | exact hs.b1); exact rfl; exact row65; exact rfl; exact rfl; exact rfl; clear hs; intro w hs) | ((with_reducible apply ldx); exact rfl; exact rfl; exact rfl; exact hs.b0; exact rfl; kernel_rfl) | ((with_reducible apply stx); exact rfl; exact rfl; exact rfl; exact hs.b0; exact rfl; exact rfl; exact rfl; kernel_rfl; exact rfl; clear hs; intro w hs) | ((with_reducible apply stcx); exact rfl; exact rfl; exact rfl; exact hs.b0; exact rfl; exact rfl; kernel_rfl; exact rfl; clear hs; intro w hs) | ((with_reducible refine wrap hs ?_); clear hs; (first | generalize w.heap.size = z1); intro w hs) | ((with_reducible refine wrap hs ?_); clear hs; intro w hs) | ((with_reducible refine wrapn hs ?_); clear hs; intro w hs) | ((with_reducible refine wrapd hs ?_); clear hs; intro w hs)))
  go_ret
  exact ⟨_, rfl, (by first | exact hs | exact hs.made)⟩
theorem place17 {v : Nat} {p : Pl} (hs : sat W (cel v 65 (plL p) :: H) w) : Calls Try.prog 17 #[.pointer (some ⟨v, 0, none⟩)] w fun e w' => e = .returned (.tuple #[.int .i64 p.id, .int .i64 p.y, .int .i64 p.x]) ∧ sat W (cel v 65 (plL p) :: H) w' := by
  go_enter Try.func17, Try.ntmps17
  go_wp2_with (first | ((try simp only [Act.put, List.setIfInBounds_toArray, List.set_cons_succ, List.set_cons_zero]); refine region_sat hs (by kernel_rfl) (by kernel_rfl) ?_; intro X f hne hf hcl; (repeat ((first | ((with_reducible apply ldqx); exact rfl; exact rfl; exact rfl; exact fun x => (hf x).b0; exact rfl; kernel_rfl) | go_big_quiet_step (fail)); (try simp only [Act.put, List.setIfInBounds_toArray, List.set_cons_succ, List.set_cons_zero]))); refine wpQuiet_nil ?_; clear hcl hf hne hs f X; intro w hs) | ((with_reducible refine isl ?_); first | ((with_reducible apply ldx); exact rfl; exact rfl; exact rfl; exact hs.b0; exact rfl; kernel_rfl) | ((with_reducible apply stx); exact rfl; exact rfl; exact rfl; exact hs.b0; exact rfl; exact rfl; exact rfl; kernel_rfl; exact rfl; clear hs; intro w hs) | ((with_reducible apply stcx); exact rfl; exact rfl; exact rfl; exact hs.b0; exact rfl; exact rfl; kernel_rfl; exact rfl; clear hs; intro w hs) | ((with_reducible refine wrap hs ?_); clear hs; intro w hs) | ((with_reducible refine wrapn hs ?_); clear hs; intro w hs) | ((with_reducible refine wrapd hs ?_); clear hs; intro w hs)))
  go_ret3
  exact ⟨rfl, hs⟩
theorem place17_nil (hs : sat W H w) : Calls Try.prog 17 #[.pointer none] w fun e w' => e = .returned (.tuple #[.int .i64 0, .int .i64 0, .int .i64 0]) ∧ sat W H w' := by
  go_enter Try.func17, Try.ntmps17
  go_wp2
  go_ret3
  exact ⟨rfl, hs⟩
set_option maxRecDepth 20000 in
theorem hold12_nil (hs : sat W H w) : Calls Try.prog 12 #[.pointer none, .agg (gV g).toArray] w fun e w' => e = .returned (.int .i64 1) ∧ sat W H w' := by
  go_enter Try.func12, Try.ntmps12
  go_wp2_with (first | ((with_reducible refine isl ?_); first | ((with_reducible apply stswx); exact rfl; exact rfl; exact rfl; (first | exact hs.b0 | exact hs.b1); exact rfl; exact row34; exact rfl; exact rfl; exact rfl; clear hs; intro w hs) | ((with_reducible apply ldswx); exact rfl; exact rfl; exact rfl; (first | exact hs.b0 | exact hs.b1 | exact hs.b2); exact row34) | ((with_reducible apply ldx); exact rfl; exact rfl; exact rfl; exact hs.b0; exact rfl; kernel_rfl) | ((with_reducible apply stx); exact rfl; exact rfl; exact rfl; exact hs.b0; exact rfl; exact rfl; exact rfl; kernel_rfl; exact rfl; clear hs; intro w hs) | ((with_reducible apply stcx); exact rfl; exact rfl; exact rfl; exact hs.b0; exact rfl; exact rfl; kernel_rfl; exact rfl; clear hs; intro w hs) | ((with_reducible refine wrap hs ?_); clear hs; (first | generalize w.heap.size = z1); intro w hs) | ((with_reducible refine wrap hs ?_); clear hs; intro w hs) | ((with_reducible refine wrapn hs ?_); clear hs; intro w hs) | ((with_reducible refine wrapd hs ?_); clear hs; intro w hs)))
  go_ret
  exact ⟨rfl, hs.drop⟩
set_option maxRecDepth 20000 in
theorem hold12_no {v : Nat} {p : Pl} (hs : sat W (cel v 65 (plL p) :: H) w) (hg : GS W H g) (hl : Lim g) (hq : mayG g.gd = false) :
    Calls Try.prog 12 #[.pointer (some ⟨v, 0, none⟩), .agg (gV g).toArray] w fun e w' => e = .returned (.int .i64 2) ∧ sat W (cel v 65 (plL p) :: H) w' := by
  have HG := Lib.hid hg
  have HL := Lib.hid hl
  have HQ := Lib.hid hq
  clear hg hl hq
  obtain ⟨aR, n, cR, aI, nI, cI, R, I, cy, cx, v1, v2, v3, v4, v5, v6, v7, v8⟩ := g
  go_enter Try.func12, Try.ntmps12
  go_wp2_with (first | (go_at_call 22; refine (may22 (g := ⟨aR, n, cR, aI, nI, cI, R, I, cy, cx, v1, v2, v3, v4, v5, v6, v7, v8⟩) hs (by (repeat first | exact HG.out | apply GS.more)) HL.out HQ.out).mono ?_; clear hs; rintro e w ⟨rfl, hs⟩) | ((with_reducible refine isl ?_); first | ((with_reducible apply stswx); exact rfl; exact rfl; exact rfl; (first | exact hs.b0 | exact hs.b1); exact rfl; exact row34; exact rfl; exact rfl; exact rfl; clear hs; intro w hs) | ((with_reducible apply ldswx); exact rfl; exact rfl; exact rfl; (first | exact hs.b0 | exact hs.b1 | exact hs.b2); exact row34) | ((with_reducible apply ldx); exact rfl; exact rfl; exact rfl; (first | exact hs.b0 | exact hs.b1); exact rfl; kernel_rfl) | ((with_reducible apply stx); exact rfl; exact rfl; exact rfl; (first | exact hs.b0 | exact hs.b1); exact rfl; exact rfl; exact rfl; kernel_rfl; exact rfl; clear hs; intro w hs) | ((with_reducible apply stcx); exact rfl; exact rfl; exact rfl; (first | exact hs.b0 | exact hs.b1); exact rfl; exact rfl; kernel_rfl; exact rfl; clear hs; intro w hs) | ((with_reducible refine wrap hs ?_); clear hs; (first | generalize w.heap.size = z1); intro w hs) | ((with_reducible refine wrap hs ?_); clear hs; intro w hs) | ((with_reducible refine wrapn hs ?_); clear hs; intro w hs) | ((with_reducible refine wrapd hs ?_); clear hs; intro w hs)))
  go_ret
  exact ⟨rfl, by refine sb_from ?_ hs; repeat constructor⟩
set_option maxHeartbeats 2000000 in
set_option maxRecDepth 20000 in
theorem hold12_yes {v : Nat} {p : Pl} (hs : sat W (cel v 65 (plL p) :: H) w) (hg : GS W H g) (hl : Lim g) (hF : Fit g.gd n m) :
    Calls Try.prog 12 #[.pointer (some ⟨v, 0, none⟩), .agg (gV g).toArray] w fun e w' => e = .returned (.int .i64 0) ∧ sat W (cel v 65 (plL (holdV g.gd p)) :: H) w' := by
  have HG := Lib.hid hg
  have HL := Lib.hid hl
  have HF := Lib.hid hF
  have HQ := Lib.hid hF.may
  have h12 := hF.n12
  obtain ⟨⟨y2, x2⟩, hp⟩ : ∃ q, holdP g.gd p = q := ⟨_, rfl⟩
  have hlt := (hF.hold_lt p)
  rw [hp] at hlt
  have hhv : holdV g.gd p = ⟨g.gd.id y2, y2, x2⟩ := by unfold holdV; rw [hp]
  rw [hhv]
  have hni := (hg.n_eq hF).2
  obtain ⟨_, b, off, eb, hc⟩ := hg.id hs.drop (y := y2) (by have := hlt.1; omega)
  have HC := Lib.hid hc
  obtain ⟨id2, hid2⟩ : ∃ q, g.gd.id y2 = q := ⟨_, rfl⟩
  rw [hid2] at HC
  rw [hid2]
  obtain ⟨fv, hfv⟩ : ∃ q, findId g.gd.ids p.id = q := ⟨_, rfl⟩
  have HFV := Lib.hid hfv
  have hy9 : (y2 : Int) < (g.nI : Int) := by have := hlt.1; omega
  unfold holdP at hp
  rw [hfv] at hp
  have hfl : ∀ i, fv = some i → i < n := fun i hi => by rw [hi] at hfv; have := (find_lt hfv).1; rw [hF.ei] at this; exact this
  obtain ⟨pid, py, px⟩ := p
  have h20 := Lib.hid hl.i20
  simp only at hp HFV
  clear hg hl hF hc hid2 hfv hhv hlt hni
  cases fv with
  | none =>
    have HP := Lib.hid hp
    clear hp hfl
    obtain ⟨aR, n', cR, aI, nI, cI, R, I, cy, cx, v1, v2, v3, v4, v5, v6, v7, v8⟩ := g
    obtain rfl : aI = _ := eb
    simp only at hy9
    go_enter Try.func12, Try.ntmps12
    go_upto_region 5 with (first | (go_at_call 22; refine (may22 (g := ⟨aR, n', cR, some ⟨b, off, none⟩, nI, cI, R, I, cy, cx, v1, v2, v3, v4, v5, v6, v7, v8⟩) hs (by (repeat first | exact HG.out | apply GS.more)) HL.out HQ.out).mono ?_; clear hs; rintro e w ⟨rfl, hs⟩) | ((with_reducible refine isl ?_); first | ((with_reducible apply stswx); exact rfl; exact rfl; exact rfl; (first | exact hs.b0 | exact hs.b1); exact rfl; exact row34; exact rfl; exact rfl; exact rfl; clear hs; intro w hs) | ((with_reducible apply ldswx); exact rfl; exact rfl; exact rfl; (first | exact hs.b0 | exact hs.b1 | exact hs.b2); exact row34) | ((with_reducible apply ldx); exact rfl; exact rfl; exact rfl; (first | exact hs.b0 | exact hs.b1); exact rfl; kernel_rfl) | ((with_reducible apply stx); exact rfl; exact rfl; exact rfl; (first | exact hs.b0 | exact hs.b1); exact rfl; exact rfl; exact rfl; kernel_rfl; exact rfl; clear hs; intro w hs) | ((with_reducible apply stcx); exact rfl; exact rfl; exact rfl; (first | exact hs.b0 | exact hs.b1); exact rfl; exact rfl; kernel_rfl; exact rfl; clear hs; intro w hs) | ((with_reducible refine wrap hs ?_); clear hs; (first | generalize w.heap.size = z1); intro w hs) | ((with_reducible refine wrap hs ?_); clear hs; intro w hs) | ((with_reducible refine wrapn hs ?_); clear hs; intro w hs) | ((with_reducible refine wrapd hs ?_); clear hs; intro w hs)))
    refine region_mix [([0, 1, 2, 3, 4, 5], [6])] [7] hs (fun _ h => h) (by kernel_rfl) (by kernel_rfl) (fun _ _ _ _ _ h => h) ?_
    simp only [segs, nths, nth, List.append_nil, List.nil_append, List.cons_append, List.map_cons, List.map_nil]
    refine seg_reads (fun _ h => h) ?_; intro X f hne hf hcl; (try simp only [Act.put, List.setIfInBounds_toArray, List.set_cons_succ, List.set_cons_zero]); (repeat ((first | ((with_reducible apply ldqx); exact rfl; exact rfl; exact rfl; (first | exact fun x => (hf x).b0 | exact fun x => (hf x).b1); exact rfl; kernel_rfl) | go_big_quiet_step (fail)); (try simp only [Act.put, List.setIfInBounds_toArray, List.set_cons_succ, List.set_cons_zero]))); refine wpQuiet_nil ?_; clear hcl hf hne hs f X; intro w hs
    go_wp2_with (first | (go_at_call 23; refine (index23_none (g := ⟨aR, n', cR, some ⟨b, off, none⟩, nI, cI, R, I, cy, cx, v1, v2, v3, v4, v5, v6, v7, v8⟩) hs (by (repeat first | exact HG.out | apply GS.more)) h20.out HFV.out).mono ?_; clear hs; rintro e w ⟨rfl, hs⟩) | ((with_reducible refine isl ?_); first | ((with_reducible refine wrap hs ?_); clear hs; intro w hs) | ((with_reducible refine wrapn hs ?_); clear hs; intro w hs) | ((with_reducible refine wrapd hs ?_); clear hs; intro w hs)))
    (first | (refine seg_on hs (by first | exact fun _ h => h | exact fun _ h => h.drop | exact fun _ h => h.drop.drop | exact fun _ h => h.drop.drop.drop) (fun _ h => h) ?_; clear hs; intro hs) | (refine seg_on hs.made (by first | exact fun _ h => h | exact fun _ h => h.drop | exact fun _ h => h.drop.drop | exact fun _ h => h.drop.drop.drop) (fun _ h => h) ?_; clear hs; intro hs) | (refine seg_on hs.drew (by first | exact fun _ h => h | exact fun _ h => h.drop | exact fun _ h => h.drop.drop | exact fun _ h => h.drop.drop.drop) (fun _ h => h) ?_; clear hs; intro hs) | (refine seg_on hs.drew.made (by first | exact fun _ h => h | exact fun _ h => h.drop | exact fun _ h => h.drop.drop | exact fun _ h => h.drop.drop.drop) (fun _ h => h) ?_; clear hs; intro hs) | (refine seg_on (hs.drewN _) (by first | exact fun _ h => h | exact fun _ h => h.drop | exact fun _ h => h.drop.drop | exact fun _ h => h.drop.drop.drop) (fun _ h => h) ?_; clear hs; intro hs))
    refine seg_last (fun _ h => h) ?_; intro X f hne hf hcl; (try simp only [Act.put, List.setIfInBounds_toArray, List.set_cons_succ, List.set_cons_zero]); (repeat ((first | ((with_reducible apply ldqx); exact rfl; exact rfl; exact rfl; (first | exact fun x => (hf x).b0 | exact fun x => (hf x).b1); exact rfl; kernel_rfl) | go_big_quiet_step (fail)); (try simp only [Act.put, List.setIfInBounds_toArray, List.set_cons_succ, List.set_cons_zero]))); refine wpQuiet_nil ?_; clear hcl hf hne hs f X; intro w hs
    go_upto_region 8 with (first | ((with_reducible refine isl ?_); first | ((with_reducible apply ldx); exact rfl; exact rfl; exact rfl; (first | exact hs.b0 | exact hs.b1); exact rfl; kernel_rfl) | ((with_reducible apply stx); exact rfl; exact rfl; exact rfl; (first | exact hs.b0 | exact hs.b1); exact rfl; exact rfl; exact rfl; kernel_rfl; exact rfl; clear hs; intro w hs) | ((with_reducible apply stcx); exact rfl; exact rfl; exact rfl; (first | exact hs.b0 | exact hs.b1); exact rfl; exact rfl; kernel_rfl; exact rfl; clear hs; intro w hs) | ((with_reducible refine wrap hs ?_); clear hs; intro w hs) | ((with_reducible refine wrapn hs ?_); clear hs; intro w hs) | ((with_reducible refine wrapd hs ?_); clear hs; intro w hs)))
    refine L_begin 9 9 (cel z1 34 (gV ⟨aR, n', cR, some ⟨b, off, none⟩, nI, cI, R, I, cy, cx, v1, v2, v3, v4, v5, v6, v7, v8⟩) :: cel v 65 [.int .i64 pid, .int .i64 py, .int .i64 px] :: H) (cel z1 34 (gV ⟨aR, n', cR, some ⟨b, off, none⟩, nI, cI, R, I, cy, cx, v1, v2, v3, v4, v5, v6, v7, v8⟩) :: cel v 65 [.int .i64 pid, .int .i64 py, .int .i64 px] :: H) hs (fun _ h => by (refine sb_from ?_ h; repeat constructor)) (fun _ h => by (refine sb_from ?_ h; repeat constructor)) (by kernel_rfl) ?_; clear hs; intro w hs hd
    refine L_reads2 [0, 1, 2, 3, 4, 5] #[true, true, true, true, true, true, false, false, false, false] (fuel := 4) hd (by kernel_rfl) (fun _ _ _ _ _ h => h) ?_; clear hd; intro X f hne hf hcl hd; simp only [nths, nth, List.append_nil, List.nil_append, List.cons_append]; (try simp only [Act.put, List.setIfInBounds_toArray, List.set_cons_succ, List.set_cons_zero]); (repeat ((first | (first | ((with_reducible apply ldsq (cs := gV ⟨aR, n', cR, some ⟨b, off, none⟩, nI, cI, R, I, cy, cx, v1, v2, v3, v4, v5, v6, v7, v8⟩) 12 (fun x => (hf x).b0)); exact rfl; exact rfl; exact rfl; exact row34; exact rfl; exact rfl) | ((with_reducible apply ldsq (cs := gV ⟨aR, n', cR, some ⟨b, off, none⟩, nI, cI, R, I, cy, cx, v1, v2, v3, v4, v5, v6, v7, v8⟩) 12 (fun x => (hf x).b1)); exact rfl; exact rfl; exact rfl; exact row34; exact rfl; exact rfl) | ((with_reducible apply ldsq (cs := gV ⟨aR, n', cR, some ⟨b, off, none⟩, nI, cI, R, I, cy, cx, v1, v2, v3, v4, v5, v6, v7, v8⟩) 12 (fun x => (hf x).b2)); exact rfl; exact rfl; exact rfl; exact row34; exact rfl; exact rfl) | ((with_reducible apply ldsq (cs := gV ⟨aR, n', cR, some ⟨b, off, none⟩, nI, cI, R, I, cy, cx, v1, v2, v3, v4, v5, v6, v7, v8⟩) 12 (fun x => (hf x).b3)); exact rfl; exact rfl; exact rfl; exact row34; exact rfl; exact rfl)) | (first | ((with_reducible apply ldsq (cs := [.int .i64 py, .int .i64 px]) 2 (fun x => (hf x).b0)); exact rfl; exact rfl; exact rfl; exact row63; exact rfl; exact rfl) | ((with_reducible apply ldsq (cs := [.int .i64 py, .int .i64 px]) 2 (fun x => (hf x).b1)); exact rfl; exact rfl; exact rfl; exact row63; exact rfl; exact rfl) | ((with_reducible apply ldsq (cs := [.int .i64 py, .int .i64 px]) 2 (fun x => (hf x).b2)); exact rfl; exact rfl; exact rfl; exact row63; exact rfl; exact rfl) | ((with_reducible apply ldsq (cs := [.int .i64 py, .int .i64 px]) 2 (fun x => (hf x).b3)); exact rfl; exact rfl; exact rfl; exact row63; exact rfl; exact rfl)) | go_big_quiet_step (fail)); (try simp only [Act.put, List.setIfInBounds_toArray, List.set_cons_succ, List.set_cons_zero]))); refine wpQuiet_nil ?_; clear hcl hf hne f X
    refine L_each [6] (by kernel_rfl) ⟨?_, trivial⟩
    simp only [nth]
    go_wp2_with (first | (go_at_call 24; refine (held24 (g := ⟨aR, n', cR, some ⟨b, off, none⟩, nI, cI, R, I, cy, cx, v1, v2, v3, v4, v5, v6, v7, v8⟩) hs (by (repeat first | exact HG.out | apply GS.more)) HF.out HP.out).mono ?_; clear hs; rintro e w ⟨rfl, hs⟩) | ((with_reducible refine isl ?_); first | ((with_reducible apply stsx); exact rfl; exact rfl; exact rfl; (first | exact hs.b0 | exact hs.b1 | exact hs.b2 | exact hs.b3); exact rfl; exact row63; exact (Nat.le_of_ble_eq_true rfl); exact rfl; exact rfl; clear hs; intro w hs) | ((with_reducible refine wrap hs ?_); clear hs; intro w hs) | ((with_reducible refine wrapn hs ?_); clear hs; intro w hs) | ((with_reducible refine wrapd hs ?_); clear hs; intro w hs)))
    (first | refine on_now hs ?_ | refine on_now hs.drew ?_ | refine on_now hs.made ?_ | refine on_now hs.made.drew ?_ | refine on_now (hs.drewN _) ?_); clear hs; intro hs
    refine L_on (cel z1 34 (gV ⟨aR, n', cR, some ⟨b, off, none⟩, nI, cI, R, I, cy, cx, v1, v2, v3, v4, v5, v6, v7, v8⟩) :: cel v 65 [.int .i64 pid, .int .i64 py, .int .i64 px] :: H) (cel z1 34 (gV ⟨aR, n', cR, some ⟨b, off, none⟩, nI, cI, R, I, cy, cx, v1, v2, v3, v4, v5, v6, v7, v8⟩) :: cel v 65 [.int .i64 pid, .int .i64 py, .int .i64 px] :: H) #[true, true, true, true, true, true, true, false, false, false] (fuel := 3) hs (by kernel_rfl) (fun _ h => h) (fun _ h => h) (fun _ => by (refine sb_from ?_ hs; repeat constructor)) (fun _ => by (refine sb_from ?_ hs; repeat constructor)) ?_; clear hd hs; intro hd hs
    refine L_each [7] (by kernel_rfl) ⟨?_, trivial⟩
    simp only [nth]
    go_wp2_with (first | (go_at_call 24; refine (held24 (g := ⟨aR, n', cR, some ⟨b, off, none⟩, nI, cI, R, I, cy, cx, v1, v2, v3, v4, v5, v6, v7, v8⟩) hs (by (repeat first | exact HG.out | apply GS.more)) HF.out HP.out).mono ?_; clear hs; rintro e w ⟨rfl, hs⟩) | ((with_reducible refine isl ?_); first | ((with_reducible apply stsx); exact rfl; exact rfl; exact rfl; (first | exact hs.b0 | exact hs.b1 | exact hs.b2 | exact hs.b3); exact rfl; exact row63; exact (Nat.le_of_ble_eq_true rfl); exact rfl; exact rfl; clear hs; intro w hs) | ((with_reducible refine wrap hs ?_); clear hs; intro w hs) | ((with_reducible refine wrapn hs ?_); clear hs; intro w hs) | ((with_reducible refine wrapd hs ?_); clear hs; intro w hs)))
    (first | refine on_now hs ?_ | refine on_now hs.drew ?_ | refine on_now hs.made ?_ | refine on_now hs.made.drew ?_ | refine on_now (hs.drewN _) ?_); clear hs; intro hs
    refine L_on (cel z1 34 (gV ⟨aR, n', cR, some ⟨b, off, none⟩, nI, cI, R, I, cy, cx, v1, v2, v3, v4, v5, v6, v7, v8⟩) :: cel v 65 [.int .i64 pid, .int .i64 py, .int .i64 px] :: H) (cel z1 34 (gV ⟨aR, n', cR, some ⟨b, off, none⟩, nI, cI, R, I, cy, cx, v1, v2, v3, v4, v5, v6, v7, v8⟩) :: cel v 65 [.int .i64 pid, .int .i64 py, .int .i64 px] :: H) #[true, true, true, true, true, true, true, true, false, false] (fuel := 2) hs (by kernel_rfl) (fun _ h => h) (fun _ h => h) (fun _ => by (refine sb_from ?_ hs; repeat constructor)) (fun _ => by (refine sb_from ?_ hs; repeat constructor)) ?_; clear hd hs; intro hd hs
    refine L_reads2 [8] #[true, true, true, true, true, true, true, true, true, false] (fuel := 1) hd (by kernel_rfl) (fun _ _ _ _ _ h => h) ?_; clear hd; intro X f hne hf hcl hd; simp only [nths, nth, List.append_nil, List.nil_append, List.cons_append]; (try simp only [Act.put, List.setIfInBounds_toArray, List.set_cons_succ, List.set_cons_zero]); (repeat ((first | (first | ((with_reducible apply ldsq (cs := gV ⟨aR, n', cR, some ⟨b, off, none⟩, nI, cI, R, I, cy, cx, v1, v2, v3, v4, v5, v6, v7, v8⟩) 12 (fun x => (hf x).b0)); exact rfl; exact rfl; exact rfl; exact row34; exact rfl; exact rfl) | ((with_reducible apply ldsq (cs := gV ⟨aR, n', cR, some ⟨b, off, none⟩, nI, cI, R, I, cy, cx, v1, v2, v3, v4, v5, v6, v7, v8⟩) 12 (fun x => (hf x).b1)); exact rfl; exact rfl; exact rfl; exact row34; exact rfl; exact rfl) | ((with_reducible apply ldsq (cs := gV ⟨aR, n', cR, some ⟨b, off, none⟩, nI, cI, R, I, cy, cx, v1, v2, v3, v4, v5, v6, v7, v8⟩) 12 (fun x => (hf x).b2)); exact rfl; exact rfl; exact rfl; exact row34; exact rfl; exact rfl) | ((with_reducible apply ldsq (cs := gV ⟨aR, n', cR, some ⟨b, off, none⟩, nI, cI, R, I, cy, cx, v1, v2, v3, v4, v5, v6, v7, v8⟩) 12 (fun x => (hf x).b3)); exact rfl; exact rfl; exact rfl; exact row34; exact rfl; exact rfl)) | (first | ((with_reducible apply ldsq (cs := [.int .i64 py, .int .i64 px]) 2 (fun x => (hf x).b0)); exact rfl; exact rfl; exact rfl; exact row63; exact rfl; exact rfl) | ((with_reducible apply ldsq (cs := [.int .i64 py, .int .i64 px]) 2 (fun x => (hf x).b1)); exact rfl; exact rfl; exact rfl; exact row63; exact rfl; exact rfl) | ((with_reducible apply ldsq (cs := [.int .i64 py, .int .i64 px]) 2 (fun x => (hf x).b2)); exact rfl; exact rfl; exact rfl; exact row63; exact rfl; exact rfl) | ((with_reducible apply ldsq (cs := [.int .i64 py, .int .i64 px]) 2 (fun x => (hf x).b3)); exact rfl; exact rfl; exact rfl; exact row63; exact rfl; exact rfl)) | go_big_quiet_step (fail)); (try simp only [Act.put, List.setIfInBounds_toArray, List.set_cons_succ, List.set_cons_zero]))); refine wpQuiet_nil ?_; clear hcl hf hne f X
    refine L_each [9] (by kernel_rfl) ⟨?_, trivial⟩
    simp only [nth]
    go_wp2_with (first | (go_at_call 24; refine (held24 (g := ⟨aR, n', cR, some ⟨b, off, none⟩, nI, cI, R, I, cy, cx, v1, v2, v3, v4, v5, v6, v7, v8⟩) hs (by (repeat first | exact HG.out | apply GS.more)) HF.out HP.out).mono ?_; clear hs; rintro e w ⟨rfl, hs⟩) | ((with_reducible refine isl ?_); first | ((with_reducible apply stsx); exact rfl; exact rfl; exact rfl; (first | exact hs.b0 | exact hs.b1 | exact hs.b2 | exact hs.b3); exact rfl; exact row63; exact (Nat.le_of_ble_eq_true rfl); exact rfl; exact rfl; clear hs; intro w hs) | ((with_reducible refine wrap hs ?_); clear hs; intro w hs) | ((with_reducible refine wrapn hs ?_); clear hs; intro w hs) | ((with_reducible refine wrapd hs ?_); clear hs; intro w hs)))
    (first | refine on_now hs ?_ | refine on_now hs.drew ?_ | refine on_now hs.made ?_ | refine on_now hs.made.drew ?_ | refine on_now (hs.drewN _) ?_); clear hs; intro hs
    refine L_on (cel z1 34 (gV ⟨aR, n', cR, some ⟨b, off, none⟩, nI, cI, R, I, cy, cx, v1, v2, v3, v4, v5, v6, v7, v8⟩) :: cel v 65 [.int .i64 pid, .int .i64 py, .int .i64 px] :: H) (cel z1 34 (gV ⟨aR, n', cR, some ⟨b, off, none⟩, nI, cI, R, I, cy, cx, v1, v2, v3, v4, v5, v6, v7, v8⟩) :: cel v 65 [.int .i64 pid, .int .i64 py, .int .i64 px] :: H) #[true, true, true, true, true, true, true, true, true, true] (fuel := 0) hs (by kernel_rfl) (fun _ h => h) (fun _ h => h) (fun e => absurd e (by decide)) (fun e => absurd e (by decide)) ?_; clear hd hs; intro hd hs
    refine L_done (by kernel_rfl) ?_; clear hd
    go_upto_region 9 with fail
    ((try simp only [Act.put, List.setIfInBounds_toArray, List.set_cons_succ, List.set_cons_zero]); refine region_tail 12 hs (by kernel_rfl) (by kernel_rfl) ?_; simp only [List.take_succ_cons, List.take_zero, List.drop_succ_cons, List.drop_zero]; clear hs; intro w hs; (repeat ((first | (first | (apply ldct; exact rfl; exact rfl; exact rfl; exact HC.out _ (hs.dropN 2); exact one3')) | ((with_reducible apply ldt hs.b0); exact rfl; exact rfl; exact rfl; exact rfl; kernel_rfl) | ((with_reducible apply ldt hs.b1); exact rfl; exact rfl; exact rfl; exact rfl; kernel_rfl) | go_big_quiet_step (fail)); (try simp only [Act.put, List.setIfInBounds_toArray, List.set_cons_succ, List.set_cons_zero]))); refine wpQuiet_nil ?_)
    go_wp2_with (first | ((with_reducible refine isl ?_); first | ((with_reducible apply ldx); exact rfl; exact rfl; exact rfl; (first | exact hs.b0 | exact hs.b1); exact rfl; kernel_rfl) | ((with_reducible apply stx); exact rfl; exact rfl; exact rfl; (first | exact hs.b0 | exact hs.b1); exact rfl; exact rfl; exact rfl; kernel_rfl; exact rfl; clear hs; intro w hs) | ((with_reducible apply stcx); exact rfl; exact rfl; exact rfl; (first | exact hs.b0 | exact hs.b1); exact rfl; exact rfl; kernel_rfl; exact rfl; clear hs; intro w hs) | ((with_reducible refine wrap hs ?_); clear hs; intro w hs) | ((with_reducible refine wrapn hs ?_); clear hs; intro w hs) | ((with_reducible refine wrapd hs ?_); clear hs; intro w hs)))
    go_ret
    exact ⟨rfl, by refine sb_from ?_ hs; repeat constructor⟩
  | some i =>
    have hi := hfl i rfl
    have HP := Lib.hid hp
    clear hp hfl
    have hi2 : ¬ (i : Int) < 0 := by omega
    obtain ⟨aR, n', cR, aI, nI, cI, R, I, cy, cx, v1, v2, v3, v4, v5, v6, v7, v8⟩ := g
    obtain rfl : aI = _ := eb
    simp only at hy9
    go_enter Try.func12, Try.ntmps12
    go_upto_region 5 with (first | (go_at_call 22; refine (may22 (g := ⟨aR, n', cR, some ⟨b, off, none⟩, nI, cI, R, I, cy, cx, v1, v2, v3, v4, v5, v6, v7, v8⟩) hs (by (repeat first | exact HG.out | apply GS.more)) HL.out HQ.out).mono ?_; clear hs; rintro e w ⟨rfl, hs⟩) | ((with_reducible refine isl ?_); first | ((with_reducible apply stswx); exact rfl; exact rfl; exact rfl; (first | exact hs.b0 | exact hs.b1); exact rfl; exact row34; exact rfl; exact rfl; exact rfl; clear hs; intro w hs) | ((with_reducible apply ldswx); exact rfl; exact rfl; exact rfl; (first | exact hs.b0 | exact hs.b1 | exact hs.b2); exact row34) | ((with_reducible apply ldx); exact rfl; exact rfl; exact rfl; (first | exact hs.b0 | exact hs.b1); exact rfl; kernel_rfl) | ((with_reducible apply stx); exact rfl; exact rfl; exact rfl; (first | exact hs.b0 | exact hs.b1); exact rfl; exact rfl; exact rfl; kernel_rfl; exact rfl; clear hs; intro w hs) | ((with_reducible apply stcx); exact rfl; exact rfl; exact rfl; (first | exact hs.b0 | exact hs.b1); exact rfl; exact rfl; kernel_rfl; exact rfl; clear hs; intro w hs) | ((with_reducible refine wrap hs ?_); clear hs; (first | generalize w.heap.size = z1); intro w hs) | ((with_reducible refine wrap hs ?_); clear hs; intro w hs) | ((with_reducible refine wrapn hs ?_); clear hs; intro w hs) | ((with_reducible refine wrapd hs ?_); clear hs; intro w hs)))
    refine region_mix [([0, 1, 2, 3, 4, 5], [6])] [7] hs (fun _ h => h) (by kernel_rfl) (by kernel_rfl) (fun _ _ _ _ _ h => h) ?_
    simp only [segs, nths, nth, List.append_nil, List.nil_append, List.cons_append, List.map_cons, List.map_nil]
    refine seg_reads (fun _ h => h) ?_; intro X f hne hf hcl; (try simp only [Act.put, List.setIfInBounds_toArray, List.set_cons_succ, List.set_cons_zero]); (repeat ((first | ((with_reducible apply ldqx); exact rfl; exact rfl; exact rfl; (first | exact fun x => (hf x).b0 | exact fun x => (hf x).b1); exact rfl; kernel_rfl) | go_big_quiet_step (fail)); (try simp only [Act.put, List.setIfInBounds_toArray, List.set_cons_succ, List.set_cons_zero]))); refine wpQuiet_nil ?_; clear hcl hf hne hs f X; intro w hs
    go_wp2_with (first | (go_at_call 23; refine (index23_some (g := ⟨aR, n', cR, some ⟨b, off, none⟩, nI, cI, R, I, cy, cx, v1, v2, v3, v4, v5, v6, v7, v8⟩) hs (by (repeat first | exact HG.out | apply GS.more)) h20.out HFV.out).mono ?_; clear hs; rintro e w ⟨rfl, hs⟩) | ((with_reducible refine isl ?_); first | ((with_reducible refine wrap hs ?_); clear hs; intro w hs) | ((with_reducible refine wrapn hs ?_); clear hs; intro w hs) | ((with_reducible refine wrapd hs ?_); clear hs; intro w hs)))
    (first | (refine seg_on hs (by first | exact fun _ h => h | exact fun _ h => h.drop | exact fun _ h => h.drop.drop | exact fun _ h => h.drop.drop.drop) (fun _ h => h) ?_; clear hs; intro hs) | (refine seg_on hs.made (by first | exact fun _ h => h | exact fun _ h => h.drop | exact fun _ h => h.drop.drop | exact fun _ h => h.drop.drop.drop) (fun _ h => h) ?_; clear hs; intro hs) | (refine seg_on hs.drew (by first | exact fun _ h => h | exact fun _ h => h.drop | exact fun _ h => h.drop.drop | exact fun _ h => h.drop.drop.drop) (fun _ h => h) ?_; clear hs; intro hs) | (refine seg_on hs.drew.made (by first | exact fun _ h => h | exact fun _ h => h.drop | exact fun _ h => h.drop.drop | exact fun _ h => h.drop.drop.drop) (fun _ h => h) ?_; clear hs; intro hs) | (refine seg_on (hs.drewN _) (by first | exact fun _ h => h | exact fun _ h => h.drop | exact fun _ h => h.drop.drop | exact fun _ h => h.drop.drop.drop) (fun _ h => h) ?_; clear hs; intro hs))
    refine seg_last (fun _ h => h) ?_; intro X f hne hf hcl; (try simp only [Act.put, List.setIfInBounds_toArray, List.set_cons_succ, List.set_cons_zero]); (repeat ((first | ((with_reducible apply ldqx); exact rfl; exact rfl; exact rfl; (first | exact fun x => (hf x).b0 | exact fun x => (hf x).b1); exact rfl; kernel_rfl) | go_big_quiet_step (fail)); (try simp only [Act.put, List.setIfInBounds_toArray, List.set_cons_succ, List.set_cons_zero]))); refine wpQuiet_nil ?_; clear hcl hf hne hs f X; intro w hs
    go_upto_region 8 with (first | ((with_reducible refine isl ?_); first | ((with_reducible apply ldx); exact rfl; exact rfl; exact rfl; (first | exact hs.b0 | exact hs.b1); exact rfl; kernel_rfl) | ((with_reducible apply stx); exact rfl; exact rfl; exact rfl; (first | exact hs.b0 | exact hs.b1); exact rfl; exact rfl; exact rfl; kernel_rfl; exact rfl; clear hs; intro w hs) | ((with_reducible apply stcx); exact rfl; exact rfl; exact rfl; (first | exact hs.b0 | exact hs.b1); exact rfl; exact rfl; kernel_rfl; exact rfl; clear hs; intro w hs) | ((with_reducible refine wrap hs ?_); clear hs; intro w hs) | ((with_reducible refine wrapn hs ?_); clear hs; intro w hs) | ((with_reducible refine wrapd hs ?_); clear hs; intro w hs)))
    refine L_begin 9 9 (cel z1 34 (gV ⟨aR, n', cR, some ⟨b, off, none⟩, nI, cI, R, I, cy, cx, v1, v2, v3, v4, v5, v6, v7, v8⟩) :: cel v 65 [.int .i64 pid, .int .i64 i, .int .i64 px] :: H) (cel z1 34 (gV ⟨aR, n', cR, some ⟨b, off, none⟩, nI, cI, R, I, cy, cx, v1, v2, v3, v4, v5, v6, v7, v8⟩) :: cel v 65 [.int .i64 pid, .int .i64 i, .int .i64 px] :: H) hs (fun _ h => by (refine sb_from ?_ h; repeat constructor)) (fun _ h => by (refine sb_from ?_ h; repeat constructor)) (by kernel_rfl) ?_; clear hs; intro w hs hd
    refine L_reads2 [0, 1, 2, 3, 4, 5] #[true, true, true, true, true, true, false, false, false, false] (fuel := 4) hd (by kernel_rfl) (fun _ _ _ _ _ h => h) ?_; clear hd; intro X f hne hf hcl hd; simp only [nths, nth, List.append_nil, List.nil_append, List.cons_append]; (try simp only [Act.put, List.setIfInBounds_toArray, List.set_cons_succ, List.set_cons_zero]); (repeat ((first | (first | ((with_reducible apply ldsq (cs := gV ⟨aR, n', cR, some ⟨b, off, none⟩, nI, cI, R, I, cy, cx, v1, v2, v3, v4, v5, v6, v7, v8⟩) 12 (fun x => (hf x).b0)); exact rfl; exact rfl; exact rfl; exact row34; exact rfl; exact rfl) | ((with_reducible apply ldsq (cs := gV ⟨aR, n', cR, some ⟨b, off, none⟩, nI, cI, R, I, cy, cx, v1, v2, v3, v4, v5, v6, v7, v8⟩) 12 (fun x => (hf x).b1)); exact rfl; exact rfl; exact rfl; exact row34; exact rfl; exact rfl) | ((with_reducible apply ldsq (cs := gV ⟨aR, n', cR, some ⟨b, off, none⟩, nI, cI, R, I, cy, cx, v1, v2, v3, v4, v5, v6, v7, v8⟩) 12 (fun x => (hf x).b2)); exact rfl; exact rfl; exact rfl; exact row34; exact rfl; exact rfl) | ((with_reducible apply ldsq (cs := gV ⟨aR, n', cR, some ⟨b, off, none⟩, nI, cI, R, I, cy, cx, v1, v2, v3, v4, v5, v6, v7, v8⟩) 12 (fun x => (hf x).b3)); exact rfl; exact rfl; exact rfl; exact row34; exact rfl; exact rfl)) | (first | ((with_reducible apply ldsq (cs := [.int .i64 (i : Int), .int .i64 px]) 2 (fun x => (hf x).b0)); exact rfl; exact rfl; exact rfl; exact row63; exact rfl; exact rfl) | ((with_reducible apply ldsq (cs := [.int .i64 (i : Int), .int .i64 px]) 2 (fun x => (hf x).b1)); exact rfl; exact rfl; exact rfl; exact row63; exact rfl; exact rfl) | ((with_reducible apply ldsq (cs := [.int .i64 (i : Int), .int .i64 px]) 2 (fun x => (hf x).b2)); exact rfl; exact rfl; exact rfl; exact row63; exact rfl; exact rfl) | ((with_reducible apply ldsq (cs := [.int .i64 (i : Int), .int .i64 px]) 2 (fun x => (hf x).b3)); exact rfl; exact rfl; exact rfl; exact row63; exact rfl; exact rfl)) | go_big_quiet_step (fail)); (try simp only [Act.put, List.setIfInBounds_toArray, List.set_cons_succ, List.set_cons_zero]))); refine wpQuiet_nil ?_; clear hcl hf hne f X
    refine L_each [6] (by kernel_rfl) ⟨?_, trivial⟩
    simp only [nth]
    go_wp2_with (first | (go_at_call 24; refine (held24 (g := ⟨aR, n', cR, some ⟨b, off, none⟩, nI, cI, R, I, cy, cx, v1, v2, v3, v4, v5, v6, v7, v8⟩) hs (by (repeat first | exact HG.out | apply GS.more)) HF.out HP.out).mono ?_; clear hs; rintro e w ⟨rfl, hs⟩) | ((with_reducible refine isl ?_); first | ((with_reducible apply stsx); exact rfl; exact rfl; exact rfl; (first | exact hs.b0 | exact hs.b1 | exact hs.b2 | exact hs.b3); exact rfl; exact row63; exact (Nat.le_of_ble_eq_true rfl); exact rfl; exact rfl; clear hs; intro w hs) | ((with_reducible refine wrap hs ?_); clear hs; intro w hs) | ((with_reducible refine wrapn hs ?_); clear hs; intro w hs) | ((with_reducible refine wrapd hs ?_); clear hs; intro w hs)))
    (first | refine on_now hs ?_ | refine on_now hs.drew ?_ | refine on_now hs.made ?_ | refine on_now hs.made.drew ?_ | refine on_now (hs.drewN _) ?_); clear hs; intro hs
    refine L_on (cel z1 34 (gV ⟨aR, n', cR, some ⟨b, off, none⟩, nI, cI, R, I, cy, cx, v1, v2, v3, v4, v5, v6, v7, v8⟩) :: cel v 65 [.int .i64 pid, .int .i64 i, .int .i64 px] :: H) (cel z1 34 (gV ⟨aR, n', cR, some ⟨b, off, none⟩, nI, cI, R, I, cy, cx, v1, v2, v3, v4, v5, v6, v7, v8⟩) :: cel v 65 [.int .i64 pid, .int .i64 i, .int .i64 px] :: H) #[true, true, true, true, true, true, true, false, false, false] (fuel := 3) hs (by kernel_rfl) (fun _ h => h) (fun _ h => h) (fun _ => by (refine sb_from ?_ hs; repeat constructor)) (fun _ => by (refine sb_from ?_ hs; repeat constructor)) ?_; clear hd hs; intro hd hs
    refine L_each [7] (by kernel_rfl) ⟨?_, trivial⟩
    simp only [nth]
    go_wp2_with (first | (go_at_call 24; refine (held24 (g := ⟨aR, n', cR, some ⟨b, off, none⟩, nI, cI, R, I, cy, cx, v1, v2, v3, v4, v5, v6, v7, v8⟩) hs (by (repeat first | exact HG.out | apply GS.more)) HF.out HP.out).mono ?_; clear hs; rintro e w ⟨rfl, hs⟩) | ((with_reducible refine isl ?_); first | ((with_reducible apply stsx); exact rfl; exact rfl; exact rfl; (first | exact hs.b0 | exact hs.b1 | exact hs.b2 | exact hs.b3); exact rfl; exact row63; exact (Nat.le_of_ble_eq_true rfl); exact rfl; exact rfl; clear hs; intro w hs) | ((with_reducible refine wrap hs ?_); clear hs; intro w hs) | ((with_reducible refine wrapn hs ?_); clear hs; intro w hs) | ((with_reducible refine wrapd hs ?_); clear hs; intro w hs)))
    (first | refine on_now hs ?_ | refine on_now hs.drew ?_ | refine on_now hs.made ?_ | refine on_now hs.made.drew ?_ | refine on_now (hs.drewN _) ?_); clear hs; intro hs
    refine L_on (cel z1 34 (gV ⟨aR, n', cR, some ⟨b, off, none⟩, nI, cI, R, I, cy, cx, v1, v2, v3, v4, v5, v6, v7, v8⟩) :: cel v 65 [.int .i64 pid, .int .i64 i, .int .i64 px] :: H) (cel z1 34 (gV ⟨aR, n', cR, some ⟨b, off, none⟩, nI, cI, R, I, cy, cx, v1, v2, v3, v4, v5, v6, v7, v8⟩) :: cel v 65 [.int .i64 pid, .int .i64 i, .int .i64 px] :: H) #[true, true, true, true, true, true, true, true, false, false] (fuel := 2) hs (by kernel_rfl) (fun _ h => h) (fun _ h => h) (fun _ => by (refine sb_from ?_ hs; repeat constructor)) (fun _ => by (refine sb_from ?_ hs; repeat constructor)) ?_; clear hd hs; intro hd hs
    refine L_reads2 [8] #[true, true, true, true, true, true, true, true, true, false] (fuel := 1) hd (by kernel_rfl) (fun _ _ _ _ _ h => h) ?_; clear hd; intro X f hne hf hcl hd; simp only [nths, nth, List.append_nil, List.nil_append, List.cons_append]; (try simp only [Act.put, List.setIfInBounds_toArray, List.set_cons_succ, List.set_cons_zero]); (repeat ((first | (first | ((with_reducible apply ldsq (cs := gV ⟨aR, n', cR, some ⟨b, off, none⟩, nI, cI, R, I, cy, cx, v1, v2, v3, v4, v5, v6, v7, v8⟩) 12 (fun x => (hf x).b0)); exact rfl; exact rfl; exact rfl; exact row34; exact rfl; exact rfl) | ((with_reducible apply ldsq (cs := gV ⟨aR, n', cR, some ⟨b, off, none⟩, nI, cI, R, I, cy, cx, v1, v2, v3, v4, v5, v6, v7, v8⟩) 12 (fun x => (hf x).b1)); exact rfl; exact rfl; exact rfl; exact row34; exact rfl; exact rfl) | ((with_reducible apply ldsq (cs := gV ⟨aR, n', cR, some ⟨b, off, none⟩, nI, cI, R, I, cy, cx, v1, v2, v3, v4, v5, v6, v7, v8⟩) 12 (fun x => (hf x).b2)); exact rfl; exact rfl; exact rfl; exact row34; exact rfl; exact rfl) | ((with_reducible apply ldsq (cs := gV ⟨aR, n', cR, some ⟨b, off, none⟩, nI, cI, R, I, cy, cx, v1, v2, v3, v4, v5, v6, v7, v8⟩) 12 (fun x => (hf x).b3)); exact rfl; exact rfl; exact rfl; exact row34; exact rfl; exact rfl)) | (first | ((with_reducible apply ldsq (cs := [.int .i64 (i : Int), .int .i64 px]) 2 (fun x => (hf x).b0)); exact rfl; exact rfl; exact rfl; exact row63; exact rfl; exact rfl) | ((with_reducible apply ldsq (cs := [.int .i64 (i : Int), .int .i64 px]) 2 (fun x => (hf x).b1)); exact rfl; exact rfl; exact rfl; exact row63; exact rfl; exact rfl) | ((with_reducible apply ldsq (cs := [.int .i64 (i : Int), .int .i64 px]) 2 (fun x => (hf x).b2)); exact rfl; exact rfl; exact rfl; exact row63; exact rfl; exact rfl) | ((with_reducible apply ldsq (cs := [.int .i64 (i : Int), .int .i64 px]) 2 (fun x => (hf x).b3)); exact rfl; exact rfl; exact rfl; exact row63; exact rfl; exact rfl)) | go_big_quiet_step (fail)); (try simp only [Act.put, List.setIfInBounds_toArray, List.set_cons_succ, List.set_cons_zero]))); refine wpQuiet_nil ?_; clear hcl hf hne f X
    refine L_each [9] (by kernel_rfl) ⟨?_, trivial⟩
    simp only [nth]
    go_wp2_with (first | (go_at_call 24; refine (held24 (g := ⟨aR, n', cR, some ⟨b, off, none⟩, nI, cI, R, I, cy, cx, v1, v2, v3, v4, v5, v6, v7, v8⟩) hs (by (repeat first | exact HG.out | apply GS.more)) HF.out HP.out).mono ?_; clear hs; rintro e w ⟨rfl, hs⟩) | ((with_reducible refine isl ?_); first | ((with_reducible apply stsx); exact rfl; exact rfl; exact rfl; (first | exact hs.b0 | exact hs.b1 | exact hs.b2 | exact hs.b3); exact rfl; exact row63; exact (Nat.le_of_ble_eq_true rfl); exact rfl; exact rfl; clear hs; intro w hs) | ((with_reducible refine wrap hs ?_); clear hs; intro w hs) | ((with_reducible refine wrapn hs ?_); clear hs; intro w hs) | ((with_reducible refine wrapd hs ?_); clear hs; intro w hs)))
    (first | refine on_now hs ?_ | refine on_now hs.drew ?_ | refine on_now hs.made ?_ | refine on_now hs.made.drew ?_ | refine on_now (hs.drewN _) ?_); clear hs; intro hs
    refine L_on (cel z1 34 (gV ⟨aR, n', cR, some ⟨b, off, none⟩, nI, cI, R, I, cy, cx, v1, v2, v3, v4, v5, v6, v7, v8⟩) :: cel v 65 [.int .i64 pid, .int .i64 i, .int .i64 px] :: H) (cel z1 34 (gV ⟨aR, n', cR, some ⟨b, off, none⟩, nI, cI, R, I, cy, cx, v1, v2, v3, v4, v5, v6, v7, v8⟩) :: cel v 65 [.int .i64 pid, .int .i64 i, .int .i64 px] :: H) #[true, true, true, true, true, true, true, true, true, true] (fuel := 0) hs (by kernel_rfl) (fun _ h => h) (fun _ h => h) (fun e => absurd e (by decide)) (fun e => absurd e (by decide)) ?_; clear hd hs; intro hd hs
    refine L_done (by kernel_rfl) ?_; clear hd
    go_upto_region 9 with fail
    ((try simp only [Act.put, List.setIfInBounds_toArray, List.set_cons_succ, List.set_cons_zero]); refine region_tail 12 hs (by kernel_rfl) (by kernel_rfl) ?_; simp only [List.take_succ_cons, List.take_zero, List.drop_succ_cons, List.drop_zero]; clear hs; intro w hs; (repeat ((first | (first | (apply ldct; exact rfl; exact rfl; exact rfl; exact HC.out _ (hs.dropN 2); exact one3')) | ((with_reducible apply ldt hs.b0); exact rfl; exact rfl; exact rfl; exact rfl; kernel_rfl) | ((with_reducible apply ldt hs.b1); exact rfl; exact rfl; exact rfl; exact rfl; kernel_rfl) | go_big_quiet_step (fail)); (try simp only [Act.put, List.setIfInBounds_toArray, List.set_cons_succ, List.set_cons_zero]))); refine wpQuiet_nil ?_)
    go_wp2_with (first | ((with_reducible refine isl ?_); first | ((with_reducible apply ldx); exact rfl; exact rfl; exact rfl; (first | exact hs.b0 | exact hs.b1); exact rfl; kernel_rfl) | ((with_reducible apply stx); exact rfl; exact rfl; exact rfl; (first | exact hs.b0 | exact hs.b1); exact rfl; exact rfl; exact rfl; kernel_rfl; exact rfl; clear hs; intro w hs) | ((with_reducible apply stcx); exact rfl; exact rfl; exact rfl; (first | exact hs.b0 | exact hs.b1); exact rfl; exact rfl; kernel_rfl; exact rfl; clear hs; intro w hs) | ((with_reducible refine wrap hs ?_); clear hs; intro w hs) | ((with_reducible refine wrapn hs ?_); clear hs; intro w hs) | ((with_reducible refine wrapd hs ?_); clear hs; intro w hs)))
    go_ret
    exact ⟨rfl, by refine sb_from ?_ hs; repeat constructor⟩
end Go.Proofs.Ytcheljogpffabaa
