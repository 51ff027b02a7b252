/- Law 21: the document's Great and May. -/
import Derived.Test.YtcheljogpffabaaSf
import Derived.Test.YtcheljogpffabaaR14
namespace Go.Proofs.Ytcheljogpffabaa
open Go.RowKit Go.Mem Go.Words Go.Deep Go.Rev
variable {W w : World} {H : List HProp} {g : Gm}
def greatG (g : Gm) : Bool := decide (12 < g.n) || (decide (20 < g.nI) || g.gd.rows.any fun r => decide (600 < size r))
theorem lim_of (h : greatG g = false) : Lim g := by
  unfold greatG at h
  simp only [Bool.or_eq_false_iff, decide_eq_false_iff_not, List.any_eq_false, decide_eq_true_eq] at h
  exact ⟨by omega, by omega, fun r hr => by have := h.2.2 r hr; omega⟩
theorem great20_b {a : Option Addr} {n cp : Nat} {L : List Cm} {q : Bool} (hc : CS W H a n cp L) (hz : size (cl L) ≤ 2000000) (hq : decide (600 < size (cl L)) = q) (hs : sat W H w) : Calls Try.prog 20 #[.slice a n cp] w fun e w' => e = .returned (.bool q) ∧ sat W H w' := hq ▸ great7 hc hz hs
attribute [local irreducible] rowTy oneTy World.setCell World.setCells World.alloc World.drew World.drewN Calls sat cel own blk old wpQuiet wpList tx
set_option maxHeartbeats 2000000 in
set_option maxRecDepth 20000 in
theorem great8 {q : Bool} (hs : sat W H w) (hg : GS W H g) (hb : ∀ r ∈ g.gd.rows, size r ≤ 2000000) (hq : greatG g = q) :
    Calls Try.prog 8 #[.agg (gV g).toArray] w fun e w' => e = .returned (.bool q) ∧ sat W H w' := by
  have HG := Lib.hid hg
  have HB := Lib.hid hb
  have HN := Lib.hid hg.gn
  unfold greatG at hq
  by_cases h12 : 12 < g.n
  · obtain rfl : true = q := by rw [← hq]; simp [h12]
    have e1 : decide (12 < g.n) = true := decide_eq_true h12
    have e2 : (12 : Int) < (g.n : Int) := by omega
    clear hg hb hq h12
    obtain ⟨aR, n, cR, aI, nI, cI, R, I, cy, cx, v1, v2, v3, v4, v5, v6, v7, v8⟩ := g
    simp only at e1 e2
    go_enter Try.func8, Try.ntmps8
    go_wp2_with (first | (apply ldc; exact rfl; exact rfl; exact rfl; (first | exact HC0.out _ (hs.dropN 0) | exact HC0.out _ (hs.dropN 1) | exact HC0.out _ (hs.dropN 2) | exact HC0.out _ (hs.dropN 3) | exact HC0.out _ (hs.dropN 4) | exact HC0.out _ (hs.dropN 5) | exact HC0.out _ (hs.dropN 6) | exact HC0.out _ (hs.dropN 7)); exact one57) | ((with_reducible refine isl ?_); first | ((with_reducible apply stswx); exact rfl; exact rfl; exact rfl; (first | exact hs.b0 | exact hs.b1); exact rfl; exact row34; exact rfl; exact rfl; exact rfl; clear hs; intro w hs) | ((with_reducible apply ldx); exact rfl; exact rfl; exact rfl; (first | exact hs.b0 | exact hs.b1); exact rfl; kernel_rfl) | ((with_reducible apply stx); exact rfl; exact rfl; exact rfl; (first | exact hs.b0 | exact hs.b1); exact rfl; exact rfl; exact rfl; kernel_rfl; exact rfl; clear hs; intro w hs) | ((with_reducible apply stcx); exact rfl; exact rfl; exact rfl; (first | exact hs.b0 | exact hs.b1); exact rfl; exact rfl; kernel_rfl; exact rfl; clear hs; intro w hs) | ((with_reducible refine wrap hs ?_); clear hs; (first | generalize w.heap.size = z1); intro w hs) | ((with_reducible refine wrap hs ?_); clear hs; intro w hs) | ((with_reducible refine wrapn hs ?_); clear hs; intro w hs) | ((with_reducible refine wrapd hs ?_); clear hs; intro w hs)))
    go_ret
    exact ⟨rfl, hs.drop⟩
  · have e1 : decide (12 < g.n) = false := decide_eq_false h12
    have h12' : decide ((12 : Int) < (g.n : Int)) = false := decide_eq_false (by omega)
    by_cases h20 : 20 < g.nI
    · obtain rfl : true = q := by rw [← hq]; simp [h20]
      have e2 : decide (20 < g.nI) = true := decide_eq_true h20
      have e3 : (20 : Int) < (g.nI : Int) := by omega
      clear hg hb hq h12 h20
      obtain ⟨aR, n, cR, aI, nI, cI, R, I, cy, cx, v1, v2, v3, v4, v5, v6, v7, v8⟩ := g
      simp only at e1 e2 e3 h12'
      go_enter Try.func8, Try.ntmps8
      go_wp2_with (first | (apply ldc; exact rfl; exact rfl; exact rfl; (first | exact HC0.out _ (hs.dropN 0) | exact HC0.out _ (hs.dropN 1) | exact HC0.out _ (hs.dropN 2) | exact HC0.out _ (hs.dropN 3) | exact HC0.out _ (hs.dropN 4) | exact HC0.out _ (hs.dropN 5) | exact HC0.out _ (hs.dropN 6) | exact HC0.out _ (hs.dropN 7)); exact one57) | ((with_reducible refine isl ?_); first | ((with_reducible apply stswx); exact rfl; exact rfl; exact rfl; (first | exact hs.b0 | exact hs.b1); exact rfl; exact row34; exact rfl; exact rfl; exact rfl; clear hs; intro w hs) | ((with_reducible apply ldx); exact rfl; exact rfl; exact rfl; (first | exact hs.b0 | exact hs.b1); exact rfl; kernel_rfl) | ((with_reducible apply stx); exact rfl; exact rfl; exact rfl; (first | exact hs.b0 | exact hs.b1); exact rfl; exact rfl; exact rfl; kernel_rfl; exact rfl; clear hs; intro w hs) | ((with_reducible apply stcx); exact rfl; exact rfl; exact rfl; (first | exact hs.b0 | exact hs.b1); exact rfl; exact rfl; kernel_rfl; exact rfl; clear hs; intro w hs) | ((with_reducible refine wrap hs ?_); clear hs; (first | generalize w.heap.size = z1); intro w hs) | ((with_reducible refine wrap hs ?_); clear hs; intro w hs) | ((with_reducible refine wrapn hs ?_); clear hs; intro w hs) | ((with_reducible refine wrapd hs ?_); clear hs; intro w hs)))
      go_ret
      exact ⟨rfl, hs.drop⟩
    · have e2 : decide (20 < g.nI) = false := decide_eq_false h20
      have h20' : decide ((20 : Int) < (g.nI : Int)) = false := decide_eq_false (by omega)
      have HQ : Hid ((g.gd.rows.any fun r => decide (600 < size r)) = q) := Lib.hid (by rw [← hq, e1, e2]; rfl)
      by_cases hz : g.n = 0
      · obtain rfl : false = q := by
          rw [← HQ.out]
          have : g.gd.rows = [] := List.eq_nil_of_length_eq_zero (by rw [HN.out.1, hz])
          rw [this]; rfl
        have hz2 : ¬ (0 : Int) < (g.n : Int) := by omega
        have hz3 : decide (0 < g.n) = false := decide_eq_false (by omega)
        clear hg hb hq h12 h20 hz
        obtain ⟨aR, n, cR, aI, nI, cI, R, I, cy, cx, v1, v2, v3, v4, v5, v6, v7, v8⟩ := g
        simp only at e1 e2 h12' h20' hz2 hz3
        go_enter Try.func8, Try.ntmps8
        go_wp2_with (first | ((with_reducible refine isl ?_); first | ((with_reducible apply stswx); exact rfl; exact rfl; exact rfl; (first | exact hs.b0 | exact hs.b1); exact rfl; exact row34; exact rfl; exact rfl; exact rfl; clear hs; intro w hs) | ((with_reducible apply ldx); exact rfl; exact rfl; exact rfl; (first | exact hs.b0 | exact hs.b1); exact rfl; kernel_rfl) | ((with_reducible apply stx); exact rfl; exact rfl; exact rfl; (first | exact hs.b0 | exact hs.b1); exact rfl; exact rfl; exact rfl; kernel_rfl; exact rfl; clear hs; intro w hs) | ((with_reducible apply stcx); exact rfl; exact rfl; exact rfl; (first | exact hs.b0 | exact hs.b1); exact rfl; exact rfl; kernel_rfl; exact rfl; clear hs; intro w hs) | ((with_reducible refine wrap hs ?_); clear hs; (first | generalize w.heap.size = z1); intro w hs) | ((with_reducible refine wrap hs ?_); clear hs; intro w hs) | ((with_reducible refine wrapn hs ?_); clear hs; intro w hs) | ((with_reducible refine wrapd hs ?_); clear hs; intro w hs)))
        go_loopw [3] (fun iv wr => iv = .int .i64 0 ∧ sat W (cel z1 34 (gV ⟨aR, n, cR, aI, nI, cI, R, I, cy, cx, v1, v2, v3, v4, v5, v6, v7, v8⟩) :: H) wr) (fun _ _ => 0)
        case atStart => exact ⟨rfl, hs⟩
        case round =>
          clear hs
          obtain ⟨rfl, hs⟩ := hrel
          go_wp2_with (first | ((with_reducible refine isl ?_); first | ((with_reducible apply ldx); exact rfl; exact rfl; exact rfl; (first | exact hs.b0 | exact hs.b1); exact rfl; kernel_rfl) | ((with_reducible apply stx); exact rfl; exact rfl; exact rfl; (first | exact hs.b0 | exact hs.b1); exact rfl; exact rfl; exact rfl; kernel_rfl; exact rfl; clear hs; intro w hs) | ((with_reducible apply stcx); exact rfl; exact rfl; exact rfl; (first | exact hs.b0 | exact hs.b1); exact rfl; exact rfl; kernel_rfl; exact rfl; clear hs; intro w hs) | ((with_reducible refine wrap hs ?_); clear hs; intro w hs) | ((with_reducible refine wrapn hs ?_); clear hs; intro w hs) | ((with_reducible refine wrapd hs ?_); clear hs; intro w hs)))
          go_ret
          exact ⟨rfl, hs.drop⟩
      obtain ⟨r0, hr0, er0, _, b, off, eb, hc0⟩ := hg.row hs (y := 0) (by omega)
      have hn9 : g.n ≤ 12 := by omega
      clear hg hb hq h12 h20 hc0 hr0 er0 hz
      obtain ⟨aR, n, cR, aI, nI, cI, R, I, cy, cx, v1, v2, v3, v4, v5, v6, v7, v8⟩ := g
      obtain rfl : aR = _ := eb
      simp only at e1 e2 h12' h20' hn9
      go_enter Try.func8, Try.ntmps8
      go_wp2_with (first | ((with_reducible refine isl ?_); first | ((with_reducible apply stswx); exact rfl; exact rfl; exact rfl; (first | exact hs.b0 | exact hs.b1); exact rfl; exact row34; exact rfl; exact rfl; exact rfl; clear hs; intro w hs) | ((with_reducible apply ldx); exact rfl; exact rfl; exact rfl; (first | exact hs.b0 | exact hs.b1); exact rfl; kernel_rfl) | ((with_reducible apply stx); exact rfl; exact rfl; exact rfl; (first | exact hs.b0 | exact hs.b1); exact rfl; exact rfl; exact rfl; kernel_rfl; exact rfl; clear hs; intro w hs) | ((with_reducible apply stcx); exact rfl; exact rfl; exact rfl; (first | exact hs.b0 | exact hs.b1); exact rfl; exact rfl; kernel_rfl; exact rfl; clear hs; intro w hs) | ((with_reducible refine wrap hs ?_); clear hs; (first | generalize w.heap.size = z1); intro w hs) | ((with_reducible refine wrap hs ?_); clear hs; intro w hs) | ((with_reducible refine wrapn hs ?_); clear hs; intro w hs) | ((with_reducible refine wrapd hs ?_); clear hs; intro w hs)))
      go_loopw [3] (fun iv wr => ∃ k : Nat, k ≤ n ∧ iv = .int .i64 (k : Int) ∧ Hid (∀ j r, j < k → (Gm.gd ⟨some ⟨b, off, none⟩, n, cR, aI, nI, cI, R, I, cy, cx, v1, v2, v3, v4, v5, v6, v7, v8⟩).rows[j]? = some r → ¬ 600 < size r) ∧ sat W (cel z1 34 (gV ⟨some ⟨b, off, none⟩, n, cR, aI, nI, cI, R, I, cy, cx, v1, v2, v3, v4, v5, v6, v7, v8⟩) :: H) wr) (fun iv _ => ((n : Int) - intOf iv).toNat)
      case atStart => exact ⟨0, Nat.zero_le _, rfl, Lib.hid (fun j r h => absurd h (Nat.not_lt_zero _)), hs⟩
      case round =>
        clear hs
        obtain ⟨k, hk, rfl, HA, hs⟩ := hrel
        by_cases hlt : k < n
        · obtain ⟨r, hr, er, hrm, b', off', eb', hc⟩ := HG.out.row hs.drop hlt
          obtain ⟨rfl, rfl⟩ : b = b' ∧ off = off' := by cases eb'; exact ⟨rfl, rfl⟩
          have HC := Lib.hid hc
          have HR := Lib.hid (HG.out.rk2 hr)
          have HCS := Lib.hid (HG.out.each r hrm)
          obtain ⟨ra, rk, rc, rL⟩ := r
          have HSZ : Hid (size (cl rL) ≤ 2000000) := Lib.hid (HB.out _ (List.mem_of_getElem? HR.out.1))
          have hkn : (k : Int) < (n : Int) := by omega
          clear hc hr er eb' hrm
          by_cases hkm : 600 < size (cl rL)
          · have HD : Hid (decide (600 < size (cl rL)) = true) := Lib.hid (decide_eq_true hkm)
            obtain rfl : true = q := by
              rw [← HQ.out]
              refine (List.any_eq_true.2 ⟨_, List.mem_of_getElem? HR.out.1, ?_⟩).symm
              simpa using hkm
            clear hkm
            go_wp2_with (first | (apply ldc; exact rfl; exact rfl; exact rfl; (first | exact HC.out _ (hs.dropN 0) | exact HC.out _ (hs.dropN 1) | exact HC.out _ (hs.dropN 2) | exact HC.out _ (hs.dropN 3) | exact HC.out _ (hs.dropN 4) | exact HC.out _ (hs.dropN 5) | exact HC.out _ (hs.dropN 6) | exact HC.out _ (hs.dropN 7)); exact one57) | (go_at_call 20; refine (great20_b HCS.out.more HSZ.out HD.out hs).mono ?_; clear hs; rintro e w ⟨rfl, hs⟩) | ((with_reducible refine isl ?_); first | ((with_reducible apply ldx); exact rfl; exact rfl; exact rfl; exact hs.b0; exact rfl; kernel_rfl) | ((with_reducible apply stx); exact rfl; exact rfl; exact rfl; exact hs.b0; exact rfl; exact rfl; exact rfl; kernel_rfl; exact rfl; clear hs; intro w hs) | ((with_reducible apply stcx); exact rfl; exact rfl; exact rfl; exact hs.b0; exact rfl; exact rfl; kernel_rfl; exact rfl; clear hs; intro w hs) | ((with_reducible refine wrap hs ?_); clear hs; intro w hs) | ((with_reducible refine wrapn hs ?_); clear hs; intro w hs) | ((with_reducible refine wrapd hs ?_); clear hs; intro w hs)))
            go_ret
            exact ⟨rfl, hs.drop⟩
          · have HD : Hid (decide (600 < size (cl rL)) = false) := Lib.hid (decide_eq_false hkm)
            have HA2 : Hid (∀ j r, j < k + 1 → (Gm.gd ⟨some ⟨b, off, none⟩, n, cR, aI, nI, cI, R, I, cy, cx, v1, v2, v3, v4, v5, v6, v7, v8⟩).rows[j]? = some r → ¬ 600 < size r) := Lib.hid (fun j r hj hjr => by
              by_cases h : j < k
              · exact HA.out j r h hjr
              · obtain rfl : j = k := by omega
                rw [HR.out.1] at hjr
                cases hjr
                exact hkm)
            clear hkm
            go_wp2_with (first | (apply ldc; exact rfl; exact rfl; exact rfl; (first | exact HC.out _ (hs.dropN 0) | exact HC.out _ (hs.dropN 1) | exact HC.out _ (hs.dropN 2) | exact HC.out _ (hs.dropN 3) | exact HC.out _ (hs.dropN 4) | exact HC.out _ (hs.dropN 5) | exact HC.out _ (hs.dropN 6) | exact HC.out _ (hs.dropN 7)); exact one57) | (go_at_call 20; refine (great20_b HCS.out.more HSZ.out HD.out hs).mono ?_; clear hs; rintro e w ⟨rfl, hs⟩) | ((with_reducible refine isl ?_); first | ((with_reducible apply ldx); exact rfl; exact rfl; exact rfl; exact hs.b0; exact rfl; kernel_rfl) | ((with_reducible apply stx); exact rfl; exact rfl; exact rfl; exact hs.b0; exact rfl; exact rfl; exact rfl; kernel_rfl; exact rfl; clear hs; intro w hs) | ((with_reducible apply stcx); exact rfl; exact rfl; exact rfl; exact hs.b0; exact rfl; exact rfl; kernel_rfl; exact rfl; clear hs; intro w hs) | ((with_reducible refine wrap hs ?_); clear hs; intro w hs) | ((with_reducible refine wrapn hs ?_); clear hs; intro w hs) | ((with_reducible refine wrapd hs ?_); clear hs; intro w hs)))
            go_roundw
            case rel => exact ⟨k + 1, hlt, by go_num, HA2, hs⟩
            case measure => simp [intOf]; omega
        · obtain rfl : n = k := by omega
          obtain rfl : false = q := by
            rw [← HQ.out]
            symm
            rw [List.any_eq_false]
            intro r hr
            obtain ⟨j, hj⟩ := List.mem_iff_getElem?.1 hr
            have hjl := (List.getElem?_eq_some_iff.1 hj).1
            rw [HN.out.1] at hjl
            simpa using HA.out j r hjl hj
          go_wp2_with (first | ((with_reducible refine isl ?_); first | ((with_reducible apply ldx); exact rfl; exact rfl; exact rfl; exact hs.b0; exact rfl; kernel_rfl) | ((with_reducible apply stx); exact rfl; exact rfl; exact rfl; exact hs.b0; exact rfl; exact rfl; exact rfl; kernel_rfl; exact rfl; clear hs; intro w hs) | ((with_reducible apply stcx); exact rfl; exact rfl; exact rfl; exact hs.b0; exact rfl; exact rfl; kernel_rfl; exact rfl; clear hs; intro w hs) | ((with_reducible refine wrap hs ?_); clear hs; intro w hs) | ((with_reducible refine wrapn hs ?_); clear hs; intro w hs) | ((with_reducible refine wrapd hs ?_); clear hs; intro w hs)))
          go_ret
          exact ⟨rfl, hs.drop⟩
set_option maxHeartbeats 2000000 in
set_option maxRecDepth 20000 in
theorem may11 {q : Bool} (hs : sat W H w) (hg : GS W H g) (hl : Lim g) (hq : mayG g.gd = q) :
    Calls Try.prog 11 #[.agg (gV g).toArray] w fun e w' => e = .returned (.bool q) ∧ sat W H w' := by
  have HG := Lib.hid hg
  have HL := Lib.hid hl
  have h12 := hl.n12
  have h20 := hl.i20
  have hgn := hg.gn
  have HN := Lib.hid hgn
  unfold mayG at hq
  rw [hgn.1, hgn.2] at hq
  by_cases h0 : g.n = 0
  · obtain rfl : false = q := by rw [← hq]; simp [h0]
    have e0 : decide (g.n < 1) = true := decide_eq_true (by omega)
    have e1 : (g.n : Int) < 1 := by omega
    clear hq hgn hg hl h0
    obtain ⟨aR, n, cR, aI, nI, cI, R, I, cy, cx, v1, v2, v3, v4, v5, v6, v7, v8⟩ := g
    simp only at h12 h20 e0 e1
    go_enter Try.func11, Try.ntmps11
    go_wp2_with (first | (apply ldc; exact rfl; exact rfl; exact rfl; (first | exact HC0.out _ (hs.dropN 0) | exact HC0.out _ (hs.dropN 1) | exact HC0.out _ (hs.dropN 2) | exact HC0.out _ (hs.dropN 3) | exact HC0.out _ (hs.dropN 4) | exact HC0.out _ (hs.dropN 5) | exact HC0.out _ (hs.dropN 6) | exact HC0.out _ (hs.dropN 7)); exact one57) | ((with_reducible refine isl ?_); first | ((with_reducible apply stswx); exact rfl; exact rfl; exact rfl; (first | exact hs.b0 | exact hs.b1); exact rfl; exact row34; exact rfl; exact rfl; exact rfl; clear hs; intro w hs) | ((with_reducible apply ldx); exact rfl; exact rfl; exact rfl; (first | exact hs.b0 | exact hs.b1); exact rfl; kernel_rfl) | ((with_reducible apply stx); exact rfl; exact rfl; exact rfl; (first | exact hs.b0 | exact hs.b1); exact rfl; exact rfl; exact rfl; kernel_rfl; exact rfl; clear hs; intro w hs) | ((with_reducible apply stcx); exact rfl; exact rfl; exact rfl; (first | exact hs.b0 | exact hs.b1); exact rfl; exact rfl; kernel_rfl; exact rfl; clear hs; intro w hs) | ((with_reducible refine wrap hs ?_); clear hs; (first | generalize w.heap.size = z1); intro w hs) | ((with_reducible refine wrap hs ?_); clear hs; intro w hs) | ((with_reducible refine wrapn hs ?_); clear hs; intro w hs) | ((with_reducible refine wrapd hs ?_); clear hs; intro w hs)))
    go_ret
    exact ⟨rfl, hs.drop⟩
  · have e0 : ¬ (g.n : Int) < 1 := by omega
    have e0' : decide ((g.n : Int) < 1) = false := decide_eq_false e0
    by_cases hi : g.nI = g.n
    · have e1 : ((g.nI : Int) != (g.n : Int)) = false := by simp; omega
      obtain ⟨r0, hr0, er0, _, b, off, eb, hc0⟩ := hg.row hs (y := 0) (by omega)
      obtain ⟨m0, hm0⟩ : ∃ m0, r0.k = m0 := ⟨_, rfl⟩
      have hm : g.gd.m = m0 := by
        have := (hg.rk2 hr0)
        unfold Gd.m
        rw [List.getD_eq_getElem?_getD, this.1, ← hm0, this.2]; rfl
      have HC0 : Hid (∀ w', sat W H w' → w'.cell? ⟨b, off, none⟩ = some (.slice r0.a m0 r0.c)) := Lib.hid (fun w' hw => by have := hc0 w' hw; rw [← hm0]; exact this)
      have HM := Lib.hid hm
      have h19 : (0 : Int) < (g.n : Int) := by omega
      have h1 : 1 ≤ g.n := by omega
      by_cases hm1 : m0 = 0
      · obtain rfl : false = q := by rw [← hq]; simp [h0, hi, hm, hm1]
        have e2 : (m0 : Int) < 1 := by omega
        have e2' : decide (m0 < 1) = true := decide_eq_true (by omega)
        clear hq hgn hg hl h0 hc0 hr0 er0 hm hm0 hm1 hi
        obtain ⟨aR, n, cR, aI, nI, cI, R, I, cy, cx, v1, v2, v3, v4, v5, v6, v7, v8⟩ := g
        obtain rfl : aR = _ := eb
        simp only at h12 h20 e0 e0' e1 h19 h1
        go_enter Try.func11, Try.ntmps11
        go_wp2_with (first | (apply ldc; exact rfl; exact rfl; exact rfl; (first | exact HC0.out _ (hs.dropN 0) | exact HC0.out _ (hs.dropN 1) | exact HC0.out _ (hs.dropN 2) | exact HC0.out _ (hs.dropN 3) | exact HC0.out _ (hs.dropN 4) | exact HC0.out _ (hs.dropN 5) | exact HC0.out _ (hs.dropN 6) | exact HC0.out _ (hs.dropN 7)); exact one57) | ((with_reducible refine isl ?_); first | ((with_reducible apply stswx); exact rfl; exact rfl; exact rfl; (first | exact hs.b0 | exact hs.b1); exact rfl; exact row34; exact rfl; exact rfl; exact rfl; clear hs; intro w hs) | ((with_reducible apply ldx); exact rfl; exact rfl; exact rfl; (first | exact hs.b0 | exact hs.b1); exact rfl; kernel_rfl) | ((with_reducible apply stx); exact rfl; exact rfl; exact rfl; (first | exact hs.b0 | exact hs.b1); exact rfl; exact rfl; exact rfl; kernel_rfl; exact rfl; clear hs; intro w hs) | ((with_reducible apply stcx); exact rfl; exact rfl; exact rfl; (first | exact hs.b0 | exact hs.b1); exact rfl; exact rfl; kernel_rfl; exact rfl; clear hs; intro w hs) | ((with_reducible refine wrap hs ?_); clear hs; (first | generalize w.heap.size = z1); intro w hs) | ((with_reducible refine wrap hs ?_); clear hs; intro w hs) | ((with_reducible refine wrapn hs ?_); clear hs; intro w hs) | ((with_reducible refine wrapd hs ?_); clear hs; intro w hs)))
        go_ret
        exact ⟨rfl, hs.drop⟩
      · have HQ : Hid ((g.gd.rows.all fun r => decide (r.length = g.gd.m)) = q) := Lib.hid (by rw [← hq]; simp [h0, hi, hm, hm1])
        have e2 : decide ((m0 : Int) < 1) = false := decide_eq_false (by omega)
        have e2' : ¬ (m0 : Int) < 1 := by omega
        clear hq hgn hg hl h0 hc0 hr0 er0 hm hm0 hm1 hi
        obtain ⟨aR, n, cR, aI, nI, cI, R, I, cy, cx, v1, v2, v3, v4, v5, v6, v7, v8⟩ := g
        obtain rfl : aR = _ := eb
        simp only at h12 h20 e0 e0' e1 h19 h1
        go_enter Try.func11, Try.ntmps11
        go_wp2_with (first | (apply ldc; exact rfl; exact rfl; exact rfl; (first | exact HC0.out _ (hs.dropN 0) | exact HC0.out _ (hs.dropN 1) | exact HC0.out _ (hs.dropN 2) | exact HC0.out _ (hs.dropN 3) | exact HC0.out _ (hs.dropN 4) | exact HC0.out _ (hs.dropN 5) | exact HC0.out _ (hs.dropN 6) | exact HC0.out _ (hs.dropN 7)); exact one57) | ((with_reducible refine isl ?_); first | ((with_reducible apply stswx); exact rfl; exact rfl; exact rfl; (first | exact hs.b0 | exact hs.b1); exact rfl; exact row34; exact rfl; exact rfl; exact rfl; clear hs; intro w hs) | ((with_reducible apply ldx); exact rfl; exact rfl; exact rfl; (first | exact hs.b0 | exact hs.b1); exact rfl; kernel_rfl) | ((with_reducible apply stx); exact rfl; exact rfl; exact rfl; (first | exact hs.b0 | exact hs.b1); exact rfl; exact rfl; exact rfl; kernel_rfl; exact rfl; clear hs; intro w hs) | ((with_reducible apply stcx); exact rfl; exact rfl; exact rfl; (first | exact hs.b0 | exact hs.b1); exact rfl; exact rfl; kernel_rfl; exact rfl; clear hs; intro w hs) | ((with_reducible refine wrap hs ?_); clear hs; (first | generalize w.heap.size = z1); intro w hs) | ((with_reducible refine wrap hs ?_); clear hs; intro w hs) | ((with_reducible refine wrapn hs ?_); clear hs; intro w hs) | ((with_reducible refine wrapd hs ?_); clear hs; intro w hs)))
        go_loopw [3] (fun iv wr => ∃ k : Nat, k ≤ n ∧ iv = .int .i64 (k : Int) ∧ Hid (∀ j r, j < k → (Gm.gd ⟨some ⟨b, off, none⟩, n, cR, aI, nI, cI, R, I, cy, cx, v1, v2, v3, v4, v5, v6, v7, v8⟩).rows[j]? = some r → r.length = m0) ∧ sat W (cel z1 34 (gV ⟨some ⟨b, off, none⟩, n, cR, aI, nI, cI, R, I, cy, cx, v1, v2, v3, v4, v5, v6, v7, v8⟩) :: H) wr) (fun iv _ => ((n : Int) - intOf iv).toNat)
        case atStart => exact ⟨0, Nat.zero_le _, rfl, Lib.hid (fun j r h => absurd h (Nat.not_lt_zero _)), hs⟩
        case round =>
          clear hs
          obtain ⟨k, hk, rfl, HA, hs⟩ := hrel
          by_cases hlt : k < n
          · obtain ⟨r, hr, er, hrm, b', off', eb', hc⟩ := HG.out.row hs.drop hlt
            obtain ⟨rfl, rfl⟩ : b = b' ∧ off = off' := by cases eb'; exact ⟨rfl, rfl⟩
            have HC := Lib.hid hc
            have HR := Lib.hid (HG.out.rk2 hr)
            obtain ⟨ra, rk, rc, rL⟩ := r
            have hkn : (k : Int) < (n : Int) := by omega
            clear hc hr er eb' hrm
            by_cases hkm : rk = m0
            · have hb : ((rk : Int) != (m0 : Int)) = false := by simp [hkm]
              have HA2 : Hid (∀ j r, j < k + 1 → (Gm.gd ⟨some ⟨b, off, none⟩, n, cR, aI, nI, cI, R, I, cy, cx, v1, v2, v3, v4, v5, v6, v7, v8⟩).rows[j]? = some r → r.length = m0) := Lib.hid (fun j r hj hjr => by
                by_cases h : j < k
                · exact HA.out j r h hjr
                · obtain rfl : j = k := by omega
                  rw [HR.out.1] at hjr
                  cases hjr
                  rw [← HR.out.2]; exact hkm)
              clear hkm
              go_wp2_with (first | ((try simp only [Act.put, List.setIfInBounds_toArray, List.set_cons_succ, List.set_cons_zero]); refine region_sat hs (by kernel_rfl) (by kernel_rfl) ?_; intro X f hne hf hcl; (repeat ((first | (apply ldcq; exact rfl; exact rfl; exact rfl; (first | exact fun y => HC.out _ ((hf y).dropN 0) | exact fun y => HC.out _ ((hf y).dropN 1) | exact fun y => HC.out _ ((hf y).dropN 2) | exact fun y => HC.out _ ((hf y).dropN 3) | exact fun y => HC.out _ ((hf y).dropN 4) | exact fun y => HC.out _ ((hf y).dropN 5) | exact fun y => HC.out _ ((hf y).dropN 6) | exact fun y => HC.out _ ((hf y).dropN 7)); exact one57) | (apply ldcq; exact rfl; exact rfl; exact rfl; (first | exact fun y => HC0.out _ ((hf y).dropN 0) | exact fun y => HC0.out _ ((hf y).dropN 1) | exact fun y => HC0.out _ ((hf y).dropN 2) | exact fun y => HC0.out _ ((hf y).dropN 3) | exact fun y => HC0.out _ ((hf y).dropN 4) | exact fun y => HC0.out _ ((hf y).dropN 5) | exact fun y => HC0.out _ ((hf y).dropN 6) | exact fun y => HC0.out _ ((hf y).dropN 7)); exact one57) | ((with_reducible apply ldqx); exact rfl; exact rfl; exact rfl; exact fun x => (hf x).b0; exact rfl; kernel_rfl) | go_big_quiet_step (fail)); (try simp only [Act.put, List.setIfInBounds_toArray, List.set_cons_succ, List.set_cons_zero]))); refine wpQuiet_nil ?_; clear hcl hf hne hs f X; intro w hs) | ((with_reducible refine isl ?_); first | ((with_reducible apply ldx); exact rfl; exact rfl; exact rfl; exact hs.b0; exact rfl; kernel_rfl) | ((with_reducible apply stx); exact rfl; exact rfl; exact rfl; exact hs.b0; exact rfl; exact rfl; exact rfl; kernel_rfl; exact rfl; clear hs; intro w hs) | ((with_reducible apply stcx); exact rfl; exact rfl; exact rfl; exact hs.b0; exact rfl; exact rfl; kernel_rfl; exact rfl; clear hs; intro w hs) | ((with_reducible refine wrap hs ?_); clear hs; intro w hs) | ((with_reducible refine wrapn hs ?_); clear hs; intro w hs) | ((with_reducible refine wrapd hs ?_); clear hs; intro w hs)))
              go_roundw
              case rel => exact ⟨k + 1, hlt, by go_num, HA2, hs⟩
              case measure => simp [intOf]; omega
            · have hb : ((rk : Int) != (m0 : Int)) = true := by simp; omega
              obtain rfl : false = q := by
                rw [← HQ.out]
                symm
                rw [List.all_eq_false]
                refine ⟨_, List.mem_of_getElem? HR.out.1, ?_⟩
                rw [HM.out, ← HR.out.2]
                simpa using hkm
              clear hkm
              go_wp2_with (first | ((try simp only [Act.put, List.setIfInBounds_toArray, List.set_cons_succ, List.set_cons_zero]); refine region_sat hs (by kernel_rfl) (by kernel_rfl) ?_; intro X f hne hf hcl; (repeat ((first | (apply ldcq; exact rfl; exact rfl; exact rfl; (first | exact fun y => HC.out _ ((hf y).dropN 0) | exact fun y => HC.out _ ((hf y).dropN 1) | exact fun y => HC.out _ ((hf y).dropN 2) | exact fun y => HC.out _ ((hf y).dropN 3) | exact fun y => HC.out _ ((hf y).dropN 4) | exact fun y => HC.out _ ((hf y).dropN 5) | exact fun y => HC.out _ ((hf y).dropN 6) | exact fun y => HC.out _ ((hf y).dropN 7)); exact one57) | (apply ldcq; exact rfl; exact rfl; exact rfl; (first | exact fun y => HC0.out _ ((hf y).dropN 0) | exact fun y => HC0.out _ ((hf y).dropN 1) | exact fun y => HC0.out _ ((hf y).dropN 2) | exact fun y => HC0.out _ ((hf y).dropN 3) | exact fun y => HC0.out _ ((hf y).dropN 4) | exact fun y => HC0.out _ ((hf y).dropN 5) | exact fun y => HC0.out _ ((hf y).dropN 6) | exact fun y => HC0.out _ ((hf y).dropN 7)); exact one57) | ((with_reducible apply ldqx); exact rfl; exact rfl; exact rfl; exact fun x => (hf x).b0; exact rfl; kernel_rfl) | go_big_quiet_step (fail)); (try simp only [Act.put, List.setIfInBounds_toArray, List.set_cons_succ, List.set_cons_zero]))); refine wpQuiet_nil ?_; clear hcl hf hne hs f X; intro w hs) | ((with_reducible refine isl ?_); first | ((with_reducible apply ldx); exact rfl; exact rfl; exact rfl; exact hs.b0; exact rfl; kernel_rfl) | ((with_reducible apply stx); exact rfl; exact rfl; exact rfl; exact hs.b0; exact rfl; exact rfl; exact rfl; kernel_rfl; exact rfl; clear hs; intro w hs) | ((with_reducible apply stcx); exact rfl; exact rfl; exact rfl; exact hs.b0; exact rfl; exact rfl; kernel_rfl; exact rfl; clear hs; intro w hs) | ((with_reducible refine wrap hs ?_); clear hs; intro w hs) | ((with_reducible refine wrapn hs ?_); clear hs; intro w hs) | ((with_reducible refine wrapd hs ?_); clear hs; intro w hs)))
              go_ret
              exact ⟨rfl, hs.drop⟩
          · obtain rfl : n = k := by omega
            obtain rfl : true = q := by
              rw [← HQ.out]
              symm
              rw [List.all_eq_true]
              intro r hr
              obtain ⟨j, hj⟩ := List.mem_iff_getElem?.1 hr
              have hjl := (List.getElem?_eq_some_iff.1 hj).1
              rw [HN.out.1] at hjl
              rw [HM.out]
              simpa using HA.out j r hjl hj
            go_wp2_with (first | ((with_reducible refine isl ?_); first | ((with_reducible apply ldx); exact rfl; exact rfl; exact rfl; exact hs.b0; exact rfl; kernel_rfl) | ((with_reducible apply stx); exact rfl; exact rfl; exact rfl; exact hs.b0; exact rfl; exact rfl; exact rfl; kernel_rfl; exact rfl; clear hs; intro w hs) | ((with_reducible apply stcx); exact rfl; exact rfl; exact rfl; exact hs.b0; exact rfl; exact rfl; kernel_rfl; exact rfl; clear hs; intro w hs) | ((with_reducible refine wrap hs ?_); clear hs; intro w hs) | ((with_reducible refine wrapn hs ?_); clear hs; intro w hs) | ((with_reducible refine wrapd hs ?_); clear hs; intro w hs)))
            go_ret
            exact ⟨rfl, hs.drop⟩
    · obtain rfl : false = q := by rw [← hq]; simp [hi]
      have e1 : ((g.nI : Int) != (g.n : Int)) = true := by simp; omega
      clear hq hgn hg hl h0 hi
      obtain ⟨aR, n, cR, aI, nI, cI, R, I, cy, cx, v1, v2, v3, v4, v5, v6, v7, v8⟩ := g
      simp only at h12 h20 e0 e0' e1
      go_enter Try.func11, Try.ntmps11
      go_wp2_with (first | (apply ldc; exact rfl; exact rfl; exact rfl; (first | exact HC0.out _ (hs.dropN 0) | exact HC0.out _ (hs.dropN 1) | exact HC0.out _ (hs.dropN 2) | exact HC0.out _ (hs.dropN 3) | exact HC0.out _ (hs.dropN 4) | exact HC0.out _ (hs.dropN 5) | exact HC0.out _ (hs.dropN 6) | exact HC0.out _ (hs.dropN 7)); exact one57) | ((with_reducible refine isl ?_); first | ((with_reducible apply stswx); exact rfl; exact rfl; exact rfl; (first | exact hs.b0 | exact hs.b1); exact rfl; exact row34; exact rfl; exact rfl; exact rfl; clear hs; intro w hs) | ((with_reducible apply ldx); exact rfl; exact rfl; exact rfl; (first | exact hs.b0 | exact hs.b1); exact rfl; kernel_rfl) | ((with_reducible apply stx); exact rfl; exact rfl; exact rfl; (first | exact hs.b0 | exact hs.b1); exact rfl; exact rfl; exact rfl; kernel_rfl; exact rfl; clear hs; intro w hs) | ((with_reducible apply stcx); exact rfl; exact rfl; exact rfl; (first | exact hs.b0 | exact hs.b1); exact rfl; exact rfl; kernel_rfl; exact rfl; clear hs; intro w hs) | ((with_reducible refine wrap hs ?_); clear hs; (first | generalize w.heap.size = z1); intro w hs) | ((with_reducible refine wrap hs ?_); clear hs; intro w hs) | ((with_reducible refine wrapn hs ?_); clear hs; intro w hs) | ((with_reducible refine wrapd hs ?_); clear hs; intro w hs)))
      go_ret
      exact ⟨rfl, hs.drop⟩
end Go.Proofs.Ytcheljogpffabaa
namespace Go.Proofs.Ytcheljogpffabaa
open Go.RowKit Go.Mem Go.Words Go.Deep Go.Rev
section
variable {E : Type} {enc : TypeId × Value → E} {w : World}
theorem cells34' : Try.prog.cellsOf 34 = 12 := by kernel_rfl
theorem cells27' : Try.prog.cellsOf 27 = 1 := by kernel_rfl
theorem cells28' : Try.prog.cellsOf 28 = 1 := by kernel_rfl
theorem cells57' : Try.prog.cellsOf 57 = 1 := by kernel_rfl
theorem cells3' : Try.prog.cellsOf 3 = 1 := by kernel_rfl
theorem cells4' : Try.prog.cellsOf 4 = 1 := by kernel_rfl
theorem cells42' : Try.prog.cellsOf 42 = 3 := by kernel_rfl
theorem cells5' : Try.prog.cellsOf 5 = 1 := by kernel_rfl
/-- A row's reading. -/
def RowOk (w : World) (b : Nat) (r : Rw) : Prop := (∀ W H, CS W (old w :: H) r.a r.k r.c r.L) ∧ size (cl r.L) ≤ b
theorem row_rd {cs : List Value} {d : DataW E} (h : RdD enc Try.prog w 57 cs d) : ∃ r : Rw, cs = [r.v] ∧ RowOk w (Rows.uptoBulk d) r := by
  obtain ⟨a, n, c, rfl⟩ := rd_slices Try.underlying57 h.rd
  obtain ⟨L, hL, hz, _⟩ := cells_rd h
  exact ⟨⟨a, n, c, L⟩, rfl, hL, hz⟩
theorem rows_rd {a : Option Addr} {n c : Nat} {d : DataW E} (h : RdD enc Try.prog w 27 [.slice a n c] d) :
    ∃ R : List Rw, (∀ W H, SR 1 W (old w :: H) a n c (R.map fun r => [r.v])) ∧ ∀ r ∈ R, RowOk w (Rows.uptoBulk d) r := by
  obtain ⟨L, Ds, h1, h2, h3, h4, h5, h6, h7⟩ := rdd_slice Try.underlying27 cells57' (by decide) h
  obtain ⟨l, rfl⟩ : ∃ l : List {r : Rw // RowOk w (Rows.uptoBulk d) r}, L = l.map fun x => [x.1.v] := rd_map fun cs hcs => by
    obtain ⟨i, hi⟩ := List.mem_iff_getElem?.1 hcs
    have hlt : i < Ds.length := by rw [h2]; exact (List.getElem?_eq_some_iff.1 hi).1
    obtain ⟨r, hr, hok⟩ := row_rd (h5 i cs _ hi (List.getElem?_eq_getElem hlt))
    have hb := bulk_part (List.getElem_mem hlt)
    exact ⟨⟨r, hok.1, by have := hok.2; omega⟩, hr⟩
  have em : (l.map fun x => [x.1.v]) = (l.map (·.1)).map fun r : Rw => [r.v] := by rw [List.map_map]; rfl
  rw [em] at h1 h6
  refine ⟨l.map (·.1), fun W H => h6.sr h1 h3 h4 W H, fun r hr => ?_⟩
  obtain ⟨x, _, rfl⟩ := List.mem_map.1 hr
  exact x.2
theorem ints_rd {a : Option Addr} {n c : Nat} {d : DataW E} (h : RdD enc Try.prog w 28 [.slice a n c] d) :
    ∃ I : List Int, (∀ W H, SR 1 W (old w :: H) a n c (I.map fun i => [.int .i64 i])) := by
  obtain ⟨L, Ds, h1, h2, h3, h4, h5, h6, h7⟩ := rdd_slice Try.underlying28 cells3' (by decide) h
  obtain ⟨l, rfl⟩ : ∃ l : List Int, L = l.map fun x => [.int .i64 x] := rd_map fun cs hcs => by
    obtain ⟨i, hi⟩ := List.mem_iff_getElem?.1 hcs
    have hlt : i < Ds.length := by rw [h2]; exact (List.getElem?_eq_some_iff.1 hi).1
    obtain ⟨x, hx, _⟩ := rd_int Try.underlying3 (h5 i cs _ hi (List.getElem?_eq_getElem hlt)).rd
    exact ⟨x, hx⟩
  exact ⟨l, fun W H => h6.sr h1 h3 h4 W H⟩
/-- A grid's reading. -/
def GridOk (w : World) (b : Nat) (g : Gm) : Prop := (∀ W H, GS W (old w :: H) g) ∧ (∀ r ∈ g.gd.rows, size r ≤ b) ∧ (gV g).all (·.oneCell') = true
set_option maxRecDepth 20000 in
theorem grid_rd {cs : List Value} {d : DataW E} (h : RdD enc Try.prog w 34 cs d) : ∃ g : Gm, cs = gV g ∧ GridOk w (Rows.uptoBulk d) g := by
  obtain ⟨ds, hl, hb, hf⟩ := rdd_struct Try.underlying34 h
  rw [cells34'] at hl
  match cs, hl with
  | [c0, c1, c2, c3, c4, c5, c6, c7, c8, c9, c10, c11], _ =>
    obtain ⟨d0, hd0, f0⟩ := hf 0 _ rfl
    obtain ⟨d1, hd1, f1⟩ := hf 1 _ rfl
    obtain ⟨d2, _, f2⟩ := hf 2 _ rfl
    obtain ⟨d3, _, f3⟩ := hf 3 _ rfl
    have f0 : RdD enc Try.prog w 27 (([c0, c1, c2, c3, c4, c5, c6, c7, c8, c9, c10, c11].drop 0).take (Try.prog.cellsOf 27)) d0 := f0
    have f1 : RdD enc Try.prog w 28 (([c0, c1, c2, c3, c4, c5, c6, c7, c8, c9, c10, c11].drop 1).take (Try.prog.cellsOf 28)) d1 := f1
    have f2 : RdD enc Try.prog w 3 (([c0, c1, c2, c3, c4, c5, c6, c7, c8, c9, c10, c11].drop 2).take (Try.prog.cellsOf 3)) d2 := f2
    have f3 : RdD enc Try.prog w 3 (([c0, c1, c2, c3, c4, c5, c6, c7, c8, c9, c10, c11].drop 3).take (Try.prog.cellsOf 3)) d3 := f3
    obtain ⟨d4, _, f4⟩ := hf 4 _ rfl
    obtain ⟨d5, _, f5⟩ := hf 5 _ rfl
    obtain ⟨d6, _, f6⟩ := hf 6 _ rfl
    obtain ⟨d7, _, f7⟩ := hf 7 _ rfl
    obtain ⟨d8, _, f8⟩ := hf 8 _ rfl
    obtain ⟨d9, _, f9⟩ := hf 9 _ rfl
    have f4 : RdD enc Try.prog w 4 (([c0, c1, c2, c3, c4, c5, c6, c7, c8, c9, c10, c11].drop 4).take (Try.prog.cellsOf 4)) d4 := f4
    have f5 : RdD enc Try.prog w 4 (([c0, c1, c2, c3, c4, c5, c6, c7, c8, c9, c10, c11].drop 5).take (Try.prog.cellsOf 4)) d5 := f5
    have f6 : RdD enc Try.prog w 4 (([c0, c1, c2, c3, c4, c5, c6, c7, c8, c9, c10, c11].drop 6).take (Try.prog.cellsOf 4)) d6 := f6
    have f7 : RdD enc Try.prog w 3 (([c0, c1, c2, c3, c4, c5, c6, c7, c8, c9, c10, c11].drop 7).take (Try.prog.cellsOf 3)) d7 := f7
    have f8 : RdD enc Try.prog w 3 (([c0, c1, c2, c3, c4, c5, c6, c7, c8, c9, c10, c11].drop 8).take (Try.prog.cellsOf 3)) d8 := f8
    have f9 : RdD enc Try.prog w 32 (([c0, c1, c2, c3, c4, c5, c6, c7, c8, c9, c10, c11].drop 9).take (Try.prog.cellsOf 32)) d9 := f9
    rw [cells4'] at f4 f5 f6
    rw [cells3'] at f7 f8
    rw [cells34] at f9
    rw [cells27'] at f0
    rw [cells28'] at f1
    rw [cells3'] at f2 f3
    simp only [List.drop_zero, List.take_succ_cons, List.take_zero, List.drop_succ_cons] at f0 f1 f2 f3 f4 f5 f6 f7 f8 f9
    obtain ⟨a, n, c, e0⟩ := rd_slices Try.underlying27 f0.rd
    obtain ⟨a', n', c', e1⟩ := rd_slices Try.underlying28 f1.rd
    obtain ⟨y, e2, _⟩ := rd_int Try.underlying3 f2.rd
    obtain ⟨x, e3, _⟩ := rd_int Try.underlying3 f3.rd
    obtain ⟨b4, e4⟩ := rd_bool Try.underlying4 f4.rd
    obtain ⟨b5, e5⟩ := rd_bool Try.underlying4 f5.rd
    obtain ⟨b6, e6⟩ := rd_bool Try.underlying4 f6.rd
    obtain ⟨i7, e7, _⟩ := rd_int Try.underlying3 f7.rd
    obtain ⟨i8, e8, _⟩ := rd_int Try.underlying3 f8.rd
    obtain ⟨_, gg⟩ := rd_struct Try.underlying32 f9.rd
    have g0 : Rd enc Try.prog w 29 (([c9, c10, c11].drop 0).take (Try.prog.cellsOf 29)) := gg 0 _ rfl
    have g1 : Rd enc Try.prog w 29 (([c9, c10, c11].drop 1).take (Try.prog.cellsOf 29)) := gg 1 _ rfl
    have g2 : Rd enc Try.prog w 30 (([c9, c10, c11].drop 2).take (Try.prog.cellsOf 30)) := gg 2 _ rfl
    rw [cells31] at g0 g1
    rw [cells32] at g2
    simp only [List.drop_zero, List.take_succ_cons, List.take_zero, List.drop_succ_cons] at g0 g1 g2
    obtain ⟨i9, e9, _⟩ := rd_int Try.underlying29 g0
    obtain ⟨i10, e10, _⟩ := rd_int Try.underlying29 g1
    obtain ⟨i11, e11, _⟩ := rd_int Try.underlying30 g2
    cases e0; cases e1; cases e2; cases e3; cases e4; cases e5; cases e6; cases e7; cases e8; cases e9; cases e10; cases e11
    obtain ⟨R, hR, hRo⟩ := rows_rd f0
    obtain ⟨I, hI⟩ := ints_rd f1
    have hb0 := bulk_part (List.mem_of_getElem? hd0)
    refine ⟨⟨a, n, c, a', n', c', R, I, y, x, .bool b4, .bool b5, .bool b6, .int .i64 i7, .int .i64 i8, .int .u32 i9, .int .u32 i10, .int .u16 i11⟩, rfl, fun W H => ⟨hR W H, hI W H, fun r hr => (hRo r hr).1 W H⟩, fun r hr => ?_, rfl⟩
    obtain ⟨q, hq, rfl⟩ := List.mem_map.1 hr
    have := (hRo q hq).2
    omega
theorem grids_rd {a : Option Addr} {n c : Nat} {d : DataW E} (h : RdD enc Try.prog w 22 [.slice a n c] d) :
    ∃ G : List Gm, (∀ W H, SR 12 W (old w :: H) a n c (G.map gV)) ∧ ∀ g ∈ G, GridOk w (Rows.uptoBulk d) g := by
  obtain ⟨L, Ds, h1, h2, h3, h4, h5, h6, h7⟩ := rdd_slice Try.underlying22 cells34' (by decide) h
  obtain ⟨l, rfl⟩ : ∃ l : List {r : Gm // GridOk w (Rows.uptoBulk d) r}, L = l.map fun x => gV x.1 := rd_map fun cs hcs => by
    obtain ⟨i, hi⟩ := List.mem_iff_getElem?.1 hcs
    have hlt : i < Ds.length := by rw [h2]; exact (List.getElem?_eq_some_iff.1 hi).1
    obtain ⟨r, hr, hok⟩ := grid_rd (h5 i cs _ hi (List.getElem?_eq_getElem hlt))
    have hb := bulk_part (List.getElem_mem hlt)
    exact ⟨⟨r, hok.1, fun q hq => by have := hok.2.1 q hq; omega, hok.2.2⟩, hr⟩
  have em : (l.map fun x => gV x.1) = (l.map (·.1)).map gV := by rw [List.map_map]; rfl
  rw [em] at h1 h6
  refine ⟨l.map (·.1), fun W H => h6.sr h1 h3 h4 W H, fun r hr => ?_⟩
  obtain ⟨x, _, rfl⟩ := List.mem_map.1 hr
  exact x.2
/-- A command, or a holding. -/
structure Op where
  c : Nat
  g : Int
  h : Bool
abbrev opV (o : Op) : List Value := [.int .u8 o.c, .int .i64 o.g, .bool o.h]
set_option maxRecDepth 20000 in
theorem op_rd {cs : List Value} {d : DataW E} (h : RdD enc Try.prog w 42 cs d) : ∃ o : Op, cs = opV o ∧ o.c ≤ 255 ∧ (Lit.int .i64 o.g).wf = true := by
  obtain ⟨ds, hl, hb, hf⟩ := rdd_struct Try.underlying42 h
  rw [cells42'] at hl
  match cs, hl with
  | [c0, c1, c2], _ =>
    obtain ⟨d0, hd0, f0⟩ := hf 0 _ rfl
    obtain ⟨d1, hd1, f1⟩ := hf 1 _ rfl
    obtain ⟨d2, _, f2⟩ := hf 2 _ rfl
    have f0 : RdD enc Try.prog w 5 (([c0, c1, c2].drop 0).take (Try.prog.cellsOf 5)) d0 := f0
    have f1 : RdD enc Try.prog w 3 (([c0, c1, c2].drop 1).take (Try.prog.cellsOf 3)) d1 := f1
    have f2 : RdD enc Try.prog w 4 (([c0, c1, c2].drop 2).take (Try.prog.cellsOf 4)) d2 := f2
    rw [cells5'] at f0
    rw [cells3'] at f1
    rw [cells4'] at f2
    simp only [List.drop_zero, List.take_succ_cons, List.take_zero, List.drop_succ_cons] at f0 f1 f2
    obtain ⟨y, e0, hy⟩ := rd_int Try.underlying5 f0.rd
    obtain ⟨x, e1, hx⟩ := rd_int Try.underlying3 f1.rd
    obtain ⟨b, e2⟩ := rd_bool Try.underlying4 f2.rd
    cases e0; cases e1; cases e2
    have hy2 : 0 ≤ y ∧ y ≤ 255 := by
      simp [Lit.wf, IntKind.min, IntKind.max, IntKind.signed, IntKind.bits] at hy
      omega
    obtain ⟨k, rfl⟩ : ∃ k : Nat, y = k := ⟨y.toNat, by omega⟩
    exact ⟨⟨k, x, b⟩, rfl, by simp only; omega, hx⟩
theorem ops_rd {a : Option Addr} {n c : Nat} {d : DataW E} (h : RdD enc Try.prog w 23 [.slice a n c] d) :
    ∃ l : List Op, (∀ W H, SR 3 W (old w :: H) a n c (l.map opV)) ∧ ∀ o ∈ l, o.c ≤ 255 ∧ (Lit.int .i64 o.g).wf = true := by
  obtain ⟨L, Ds, h1, h2, h3, h4, h5, h6, h7⟩ := rdd_slice Try.underlying23 cells42' (by decide) h
  obtain ⟨l, rfl⟩ : ∃ l : List {r : Op // r.c ≤ 255 ∧ (Lit.int .i64 r.g).wf = true}, L = l.map fun x => opV x.1 := rd_map fun cs hcs => by
    obtain ⟨i, hi⟩ := List.mem_iff_getElem?.1 hcs
    have hlt : i < Ds.length := by rw [h2]; exact (List.getElem?_eq_some_iff.1 hi).1
    obtain ⟨r, hr, hok⟩ := op_rd (h5 i cs _ hi (List.getElem?_eq_getElem hlt))
    exact ⟨⟨r, hok⟩, hr⟩
  have em : (l.map fun x => opV x.1) = (l.map (·.1)).map opV := by rw [List.map_map]; rfl
  rw [em] at h1 h6
  refine ⟨l.map (·.1), fun W H => h6.sr h1 h3 h4 W H, fun r hr => ?_⟩
  obtain ⟨x, _, rfl⟩ := List.mem_map.1 hr
  exact x.2
end
end Go.Proofs.Ytcheljogpffabaa
