/- Law 21: the document's Great and May. -/
import Derived.Test.YtcheljogpffabaaR14
namespace Go.Proofs.Ytcheljogpffabaa
open Go.RowKit Go.Mem Go.Words Go.Deep Go.Rev
variable {W w : World} {H : List HProp} {g : Gm}
def greatG (g : Gm) : Bool := decide (12 < g.n) || (decide (20 < g.nI) || g.gd.rows.any fun r => decide (600 < size r))
theorem lim_of (h : greatG g = false) : Lim g := by
  unfold greatG at h
  simp only [Bool.or_eq_false_iff, decide_eq_false_iff_not, List.any_eq_false, decide_eq_true_eq] at h
  exact ⟨by omega, by omega, fun r hr => by have := h.2.2 r hr; omega⟩
theorem great20_b {a : Option Addr} {n cp : Nat} {L : List Cm} {q : Bool} (hc : CS W H a n cp L) (hz : size (cl L) ≤ 2000000) (hq : decide (600 < size (cl L)) = q) (hs : sat W H w) : Calls Try.prog 20 #[.slice a n cp] w fun e w' => e = .returned (.bool q) ∧ sat W H w' := hq ▸ great7 hc hz hs
attribute [local irreducible] rowTy oneTy World.setCell World.setCells World.alloc World.drew World.drewN Calls sat cel own blk old wpQuiet wpList tx
set_option maxHeartbeats 2000000 in
set_option maxRecDepth 20000 in
theorem great8 {q : Bool} (hs : sat W H w) (hg : GS W H g) (hb : ∀ r ∈ g.gd.rows, size r ≤ 2000000) (hq : greatG g = q) :
    Calls Try.prog 8 #[.agg (gV g).toArray] w fun e w' => e = .returned (.bool q) ∧ sat W H w' := by
  have HG := Lib.hid hg
  have HB := Lib.hid hb
  have HN := Lib.hid hg.gn
  unfold greatG at hq
  by_cases h12 : 12 < g.n
  · obtain rfl : true = q := by rw [← hq]; simp [h12]
    have e1 : decide (12 < g.n) = true := decide_eq_true h12
    have e2 : (12 : Int) < (g.n : Int) := by omega
    clear hg hb hq h12
    obtain ⟨aR, n, cR, aI, nI, cI, R, I, cy, cx, v1, v2, v3, v4, v5, v6, v7, v8⟩ := g
    simp only at e1 e2
    go_enter Try.func8, Try.ntmps8
    go_wp2_with (first | (apply ldc; exact rfl; exact rfl; exact rfl; (first | exact HC0.out _ (hs.dropN 0) | exact HC0.out _ (hs.dropN 1) | exact HC0.out _ (hs.dropN 2) | exact HC0.out _ (hs.dropN 3) | exact HC0.out _ (hs.dropN 4) | exact HC0.out _ (hs.dropN 5) | exact HC0.out _ (hs.dropN 6) | exact HC0.out _ (hs.dropN 7)); exact one57) | ((with_reducible refine isl ?_); first | ((with_reducible apply stsw hs.b0); exact rfl; exact rfl; exact rfl; exact rfl; exact row34; exact rfl; exact rfl; exact rfl; clear hs; intro w hs) | ((with_reducible apply stsw hs.b1); exact rfl; exact rfl; exact rfl; exact rfl; exact row34; exact rfl; exact rfl; exact rfl; clear hs; intro w hs) | ((with_reducible apply ld hs.b0); exact rfl; exact rfl; exact rfl; exact rfl; kernel_rfl) | ((with_reducible apply ld hs.b1); exact rfl; exact rfl; exact rfl; exact rfl; kernel_rfl) | ((with_reducible apply st hs.b0); exact rfl; exact rfl; exact rfl; exact rfl; exact rfl; exact rfl; kernel_rfl; exact rfl; clear hs; intro w hs) | ((with_reducible apply st hs.b1); exact rfl; exact rfl; exact rfl; exact rfl; exact rfl; exact rfl; kernel_rfl; exact rfl; clear hs; intro w hs) | ((with_reducible apply stc hs.b0); exact rfl; exact rfl; exact rfl; exact rfl; exact rfl; kernel_rfl; exact rfl; clear hs; intro w hs) | ((with_reducible apply stc hs.b1); exact rfl; exact rfl; exact rfl; exact rfl; exact rfl; kernel_rfl; exact rfl; clear hs; intro w hs) | ((with_reducible refine wrap hs ?_); clear hs; (first | generalize w.heap.size = z1); intro w hs) | ((with_reducible refine wrap hs ?_); clear hs; intro w hs) | ((with_reducible refine wrapn hs ?_); clear hs; intro w hs) | ((with_reducible refine wrapd hs ?_); clear hs; intro w hs)))
    go_ret
    exact ⟨rfl, hs.drop⟩
  · have e1 : decide (12 < g.n) = false := decide_eq_false h12
    have h12' : decide ((12 : Int) < (g.n : Int)) = false := decide_eq_false (by omega)
    by_cases h20 : 20 < g.nI
    · obtain rfl : true = q := by rw [← hq]; simp [h20]
      have e2 : decide (20 < g.nI) = true := decide_eq_true h20
      have e3 : (20 : Int) < (g.nI : Int) := by omega
      clear hg hb hq h12 h20
      obtain ⟨aR, n, cR, aI, nI, cI, R, I, cy, cx, v1, v2, v3, v4, v5, v6, v7, v8⟩ := g
      simp only at e1 e2 e3 h12'
      go_enter Try.func8, Try.ntmps8
      go_wp2_with (first | (apply ldc; exact rfl; exact rfl; exact rfl; (first | exact HC0.out _ (hs.dropN 0) | exact HC0.out _ (hs.dropN 1) | exact HC0.out _ (hs.dropN 2) | exact HC0.out _ (hs.dropN 3) | exact HC0.out _ (hs.dropN 4) | exact HC0.out _ (hs.dropN 5) | exact HC0.out _ (hs.dropN 6) | exact HC0.out _ (hs.dropN 7)); exact one57) | ((with_reducible refine isl ?_); first | ((with_reducible apply stsw hs.b0); exact rfl; exact rfl; exact rfl; exact rfl; exact row34; exact rfl; exact rfl; exact rfl; clear hs; intro w hs) | ((with_reducible apply stsw hs.b1); exact rfl; exact rfl; exact rfl; exact rfl; exact row34; exact rfl; exact rfl; exact rfl; clear hs; intro w hs) | ((with_reducible apply ld hs.b0); exact rfl; exact rfl; exact rfl; exact rfl; kernel_rfl) | ((with_reducible apply ld hs.b1); exact rfl; exact rfl; exact rfl; exact rfl; kernel_rfl) | ((with_reducible apply st hs.b0); exact rfl; exact rfl; exact rfl; exact rfl; exact rfl; exact rfl; kernel_rfl; exact rfl; clear hs; intro w hs) | ((with_reducible apply st hs.b1); exact rfl; exact rfl; exact rfl; exact rfl; exact rfl; exact rfl; kernel_rfl; exact rfl; clear hs; intro w hs) | ((with_reducible apply stc hs.b0); exact rfl; exact rfl; exact rfl; exact rfl; exact rfl; kernel_rfl; exact rfl; clear hs; intro w hs) | ((with_reducible apply stc hs.b1); exact rfl; exact rfl; exact rfl; exact rfl; exact rfl; kernel_rfl; exact rfl; clear hs; intro w hs) | ((with_reducible refine wrap hs ?_); clear hs; (first | generalize w.heap.size = z1); intro w hs) | ((with_reducible refine wrap hs ?_); clear hs; intro w hs) | ((with_reducible refine wrapn hs ?_); clear hs; intro w hs) | ((with_reducible refine wrapd hs ?_); clear hs; intro w hs)))
      go_ret
      exact ⟨rfl, hs.drop⟩
    · have e2 : decide (20 < g.nI) = false := decide_eq_false h20
      have h20' : decide ((20 : Int) < (g.nI : Int)) = false := decide_eq_false (by omega)
      have HQ : Hid ((g.gd.rows.any fun r => decide (600 < size r)) = q) := Lib.hid (by rw [← hq, e1, e2]; rfl)
      by_cases hz : g.n = 0
      · obtain rfl : false = q := by
          rw [← HQ.out]
          have : g.gd.rows = [] := List.eq_nil_of_length_eq_zero (by rw [HN.out.1, hz])
          rw [this]; rfl
        have hz2 : ¬ (0 : Int) < (g.n : Int) := by omega
        have hz3 : decide (0 < g.n) = false := decide_eq_false (by omega)
        clear hg hb hq h12 h20 hz
        obtain ⟨aR, n, cR, aI, nI, cI, R, I, cy, cx, v1, v2, v3, v4, v5, v6, v7, v8⟩ := g
        simp only at e1 e2 h12' h20' hz2 hz3
        go_enter Try.func8, Try.ntmps8
        go_wp2_with (first | ((with_reducible refine isl ?_); first | ((with_reducible apply stsw hs.b0); exact rfl; exact rfl; exact rfl; exact rfl; exact row34; exact rfl; exact rfl; exact rfl; clear hs; intro w hs) | ((with_reducible apply stsw hs.b1); exact rfl; exact rfl; exact rfl; exact rfl; exact row34; exact rfl; exact rfl; exact rfl; clear hs; intro w hs) | ((with_reducible apply ld hs.b0); exact rfl; exact rfl; exact rfl; exact rfl; kernel_rfl) | ((with_reducible apply ld hs.b1); exact rfl; exact rfl; exact rfl; exact rfl; kernel_rfl) | ((with_reducible apply st hs.b0); exact rfl; exact rfl; exact rfl; exact rfl; exact rfl; exact rfl; kernel_rfl; exact rfl; clear hs; intro w hs) | ((with_reducible apply st hs.b1); exact rfl; exact rfl; exact rfl; exact rfl; exact rfl; exact rfl; kernel_rfl; exact rfl; clear hs; intro w hs) | ((with_reducible apply stc hs.b0); exact rfl; exact rfl; exact rfl; exact rfl; exact rfl; kernel_rfl; exact rfl; clear hs; intro w hs) | ((with_reducible apply stc hs.b1); exact rfl; exact rfl; exact rfl; exact rfl; exact rfl; kernel_rfl; exact rfl; clear hs; intro w hs) | ((with_reducible refine wrap hs ?_); clear hs; (first | generalize w.heap.size = z1); intro w hs) | ((with_reducible refine wrap hs ?_); clear hs; intro w hs) | ((with_reducible refine wrapn hs ?_); clear hs; intro w hs) | ((with_reducible refine wrapd hs ?_); clear hs; intro w hs)))
        go_loopw [3] (fun iv wr => iv = .int .i64 0 ∧ sat W (cel z1 34 (gV ⟨aR, n, cR, aI, nI, cI, R, I, cy, cx, v1, v2, v3, v4, v5, v6, v7, v8⟩) :: H) wr) (fun _ _ => 0)
        case atStart => exact ⟨rfl, hs⟩
        case round =>
          clear hs
          obtain ⟨rfl, hs⟩ := hrel
          go_wp2_with (first | ((with_reducible refine isl ?_); first | ((with_reducible apply ld hs.b0); exact rfl; exact rfl; exact rfl; exact rfl; kernel_rfl) | ((with_reducible apply ld hs.b1); exact rfl; exact rfl; exact rfl; exact rfl; kernel_rfl) | ((with_reducible apply st hs.b0); exact rfl; exact rfl; exact rfl; exact rfl; exact rfl; exact rfl; kernel_rfl; exact rfl; clear hs; intro w hs) | ((with_reducible apply st hs.b1); exact rfl; exact rfl; exact rfl; exact rfl; exact rfl; exact rfl; kernel_rfl; exact rfl; clear hs; intro w hs) | ((with_reducible apply stc hs.b0); exact rfl; exact rfl; exact rfl; exact rfl; exact rfl; kernel_rfl; exact rfl; clear hs; intro w hs) | ((with_reducible apply stc hs.b1); exact rfl; exact rfl; exact rfl; exact rfl; exact rfl; kernel_rfl; exact rfl; clear hs; intro w hs) | ((with_reducible refine wrap hs ?_); clear hs; intro w hs) | ((with_reducible refine wrapn hs ?_); clear hs; intro w hs) | ((with_reducible refine wrapd hs ?_); clear hs; intro w hs)))
          go_ret
          exact ⟨rfl, hs.drop⟩
      obtain ⟨r0, hr0, er0, _, b, off, eb, hc0⟩ := hg.row hs (y := 0) (by omega)
      have hn9 : g.n ≤ 12 := by omega
      clear hg hb hq h12 h20 hc0 hr0 er0 hz
      obtain ⟨aR, n, cR, aI, nI, cI, R, I, cy, cx, v1, v2, v3, v4, v5, v6, v7, v8⟩ := g
      obtain rfl : aR = _ := eb
      simp only at e1 e2 h12' h20' hn9
      go_enter Try.func8, Try.ntmps8
      go_wp2_with (first | ((with_reducible refine isl ?_); first | ((with_reducible apply stsw hs.b0); exact rfl; exact rfl; exact rfl; exact rfl; exact row34; exact rfl; exact rfl; exact rfl; clear hs; intro w hs) | ((with_reducible apply stsw hs.b1); exact rfl; exact rfl; exact rfl; exact rfl; exact row34; exact rfl; exact rfl; exact rfl; clear hs; intro w hs) | ((with_reducible apply ld hs.b0); exact rfl; exact rfl; exact rfl; exact rfl; kernel_rfl) | ((with_reducible apply ld hs.b1); exact rfl; exact rfl; exact rfl; exact rfl; kernel_rfl) | ((with_reducible apply st hs.b0); exact rfl; exact rfl; exact rfl; exact rfl; exact rfl; exact rfl; kernel_rfl; exact rfl; clear hs; intro w hs) | ((with_reducible apply st hs.b1); exact rfl; exact rfl; exact rfl; exact rfl; exact rfl; exact rfl; kernel_rfl; exact rfl; clear hs; intro w hs) | ((with_reducible apply stc hs.b0); exact rfl; exact rfl; exact rfl; exact rfl; exact rfl; kernel_rfl; exact rfl; clear hs; intro w hs) | ((with_reducible apply stc hs.b1); exact rfl; exact rfl; exact rfl; exact rfl; exact rfl; kernel_rfl; exact rfl; clear hs; intro w hs) | ((with_reducible refine wrap hs ?_); clear hs; (first | generalize w.heap.size = z1); intro w hs) | ((with_reducible refine wrap hs ?_); clear hs; intro w hs) | ((with_reducible refine wrapn hs ?_); clear hs; intro w hs) | ((with_reducible refine wrapd hs ?_); clear hs; intro w hs)))
      go_loopw [3] (fun iv wr => ∃ k : Nat, k ≤ n ∧ iv = .int .i64 (k : Int) ∧ Hid (∀ j r, j < k → (Gm.gd ⟨some ⟨b, off, none⟩, n, cR, aI, nI, cI, R, I, cy, cx, v1, v2, v3, v4, v5, v6, v7, v8⟩).rows[j]? = some r → ¬ 600 < size r) ∧ sat W (cel z1 34 (gV ⟨some ⟨b, off, none⟩, n, cR, aI, nI, cI, R, I, cy, cx, v1, v2, v3, v4, v5, v6, v7, v8⟩) :: H) wr) (fun iv _ => ((n : Int) - intOf iv).toNat)
      case atStart => exact ⟨0, Nat.zero_le _, rfl, Lib.hid (fun j r h => absurd h (Nat.not_lt_zero _)), hs⟩
      case round =>
        clear hs
        obtain ⟨k, hk, rfl, HA, hs⟩ := hrel
        by_cases hlt : k < n
        · obtain ⟨r, hr, er, hrm, b', off', eb', hc⟩ := HG.out.row hs.drop hlt
          obtain ⟨rfl, rfl⟩ : b = b' ∧ off = off' := by cases eb'; exact ⟨rfl, rfl⟩
          have HC := Lib.hid hc
          have HR := Lib.hid (HG.out.rk2 hr)
          have HCS := Lib.hid (HG.out.each r hrm)
          obtain ⟨ra, rk, rc, rL⟩ := r
          have HSZ : Hid (size (cl rL) ≤ 2000000) := Lib.hid (HB.out _ (List.mem_of_getElem? HR.out.1))
          have hkn : (k : Int) < (n : Int) := by omega
          clear hc hr er eb' hrm
          by_cases hkm : 600 < size (cl rL)
          · have HD : Hid (decide (600 < size (cl rL)) = true) := Lib.hid (decide_eq_true hkm)
            obtain rfl : true = q := by
              rw [← HQ.out]
              refine (List.any_eq_true.2 ⟨_, List.mem_of_getElem? HR.out.1, ?_⟩).symm
              simpa using hkm
            clear hkm
            go_wp2_with (first | (apply ldc; exact rfl; exact rfl; exact rfl; (first | exact HC.out _ (hs.dropN 0) | exact HC.out _ (hs.dropN 1) | exact HC.out _ (hs.dropN 2) | exact HC.out _ (hs.dropN 3) | exact HC.out _ (hs.dropN 4) | exact HC.out _ (hs.dropN 5) | exact HC.out _ (hs.dropN 6) | exact HC.out _ (hs.dropN 7)); exact one57) | (go_at_call 20; refine (great20_b HCS.out.more HSZ.out HD.out hs).mono ?_; clear hs; rintro e w ⟨rfl, hs⟩) | ((with_reducible refine isl ?_); first | ((with_reducible apply ld hs.b0); exact rfl; exact rfl; exact rfl; exact rfl; kernel_rfl) | ((with_reducible apply st hs.b0); exact rfl; exact rfl; exact rfl; exact rfl; exact rfl; exact rfl; kernel_rfl; exact rfl; clear hs; intro w hs) | ((with_reducible apply stc hs.b0); exact rfl; exact rfl; exact rfl; exact rfl; exact rfl; kernel_rfl; exact rfl; clear hs; intro w hs) | ((with_reducible refine wrap hs ?_); clear hs; intro w hs) | ((with_reducible refine wrapn hs ?_); clear hs; intro w hs) | ((with_reducible refine wrapd hs ?_); clear hs; intro w hs)))
            go_ret
            exact ⟨rfl, hs.drop⟩
          · have HD : Hid (decide (600 < size (cl rL)) = false) := Lib.hid (decide_eq_false hkm)
            have HA2 : Hid (∀ j r, j < k + 1 → (Gm.gd ⟨some ⟨b, off, none⟩, n, cR, aI, nI, cI, R, I, cy, cx, v1, v2, v3, v4, v5, v6, v7, v8⟩).rows[j]? = some r → ¬ 600 < size r) := Lib.hid (fun j r hj hjr => by
              by_cases h : j < k
              · exact HA.out j r h hjr
              · obtain rfl : j = k := by omega
                rw [HR.out.1] at hjr
                cases hjr
                exact hkm)
            clear hkm
            go_wp2_with (first | (apply ldc; exact rfl; exact rfl; exact rfl; (first | exact HC.out _ (hs.dropN 0) | exact HC.out _ (hs.dropN 1) | exact HC.out _ (hs.dropN 2) | exact HC.out _ (hs.dropN 3) | exact HC.out _ (hs.dropN 4) | exact HC.out _ (hs.dropN 5) | exact HC.out _ (hs.dropN 6) | exact HC.out _ (hs.dropN 7)); exact one57) | (go_at_call 20; refine (great20_b HCS.out.more HSZ.out HD.out hs).mono ?_; clear hs; rintro e w ⟨rfl, hs⟩) | ((with_reducible refine isl ?_); first | ((with_reducible apply ld hs.b0); exact rfl; exact rfl; exact rfl; exact rfl; kernel_rfl) | ((with_reducible apply st hs.b0); exact rfl; exact rfl; exact rfl; exact rfl; exact rfl; exact rfl; kernel_rfl; exact rfl; clear hs; intro w hs) | ((with_reducible apply stc hs.b0); exact rfl; exact rfl; exact rfl; exact rfl; exact rfl; kernel_rfl; exact rfl; clear hs; intro w hs) | ((with_reducible refine wrap hs ?_); clear hs; intro w hs) | ((with_reducible refine wrapn hs ?_); clear hs; intro w hs) | ((with_reducible refine wrapd hs ?_); clear hs; intro w hs)))
            go_roundw
            case rel => exact ⟨k + 1, hlt, by go_num, HA2, hs⟩
            case measure => simp [intOf]; omega
        · obtain rfl : n = k := by omega
          obtain rfl : false = q := by
            rw [← HQ.out]
            symm
            rw [List.any_eq_false]
            intro r hr
            obtain ⟨j, hj⟩ := List.mem_iff_getElem?.1 hr
            have hjl := (List.getElem?_eq_some_iff.1 hj).1
            rw [HN.out.1] at hjl
            simpa using HA.out j r hjl hj
          go_wp2_with (first | ((with_reducible refine isl ?_); first | ((with_reducible apply ld hs.b0); exact rfl; exact rfl; exact rfl; exact rfl; kernel_rfl) | ((with_reducible apply st hs.b0); exact rfl; exact rfl; exact rfl; exact rfl; exact rfl; exact rfl; kernel_rfl; exact rfl; clear hs; intro w hs) | ((with_reducible apply stc hs.b0); exact rfl; exact rfl; exact rfl; exact rfl; exact rfl; kernel_rfl; exact rfl; clear hs; intro w hs) | ((with_reducible refine wrap hs ?_); clear hs; intro w hs) | ((with_reducible refine wrapn hs ?_); clear hs; intro w hs) | ((with_reducible refine wrapd hs ?_); clear hs; intro w hs)))
          go_ret
          exact ⟨rfl, hs.drop⟩
set_option maxHeartbeats 2000000 in
set_option maxRecDepth 20000 in
theorem may11 {q : Bool} (hs : sat W H w) (hg : GS W H g) (hl : Lim g) (hq : mayG g.gd = q) :
    Calls Try.prog 11 #[.agg (gV g).toArray] w fun e w' => e = .returned (.bool q) ∧ sat W H w' := by
  have HG := Lib.hid hg
  have HL := Lib.hid hl
  have h12 := hl.n12
  have h20 := hl.i20
  have hgn := hg.gn
  have HN := Lib.hid hgn
  unfold mayG at hq
  rw [hgn.1, hgn.2] at hq
  by_cases h0 : g.n = 0
  · obtain rfl : false = q := by rw [← hq]; simp [h0]
    have e0 : decide (g.n < 1) = true := decide_eq_true (by omega)
    have e1 : (g.n : Int) < 1 := by omega
    clear hq hgn hg hl h0
    obtain ⟨aR, n, cR, aI, nI, cI, R, I, cy, cx, v1, v2, v3, v4, v5, v6, v7, v8⟩ := g
    simp only at h12 h20 e0 e1
    go_enter Try.func11, Try.ntmps11
    go_wp2_with (first | (apply ldc; exact rfl; exact rfl; exact rfl; (first | exact HC0.out _ (hs.dropN 0) | exact HC0.out _ (hs.dropN 1) | exact HC0.out _ (hs.dropN 2) | exact HC0.out _ (hs.dropN 3) | exact HC0.out _ (hs.dropN 4) | exact HC0.out _ (hs.dropN 5) | exact HC0.out _ (hs.dropN 6) | exact HC0.out _ (hs.dropN 7)); exact one57) | ((with_reducible refine isl ?_); first | ((with_reducible apply stsw hs.b0); exact rfl; exact rfl; exact rfl; exact rfl; exact row34; exact rfl; exact rfl; exact rfl; clear hs; intro w hs) | ((with_reducible apply stsw hs.b1); exact rfl; exact rfl; exact rfl; exact rfl; exact row34; exact rfl; exact rfl; exact rfl; clear hs; intro w hs) | ((with_reducible apply ld hs.b0); exact rfl; exact rfl; exact rfl; exact rfl; kernel_rfl) | ((with_reducible apply ld hs.b1); exact rfl; exact rfl; exact rfl; exact rfl; kernel_rfl) | ((with_reducible apply st hs.b0); exact rfl; exact rfl; exact rfl; exact rfl; exact rfl; exact rfl; kernel_rfl; exact rfl; clear hs; intro w hs) | ((with_reducible apply st hs.b1); exact rfl; exact rfl; exact rfl; exact rfl; exact rfl; exact rfl; kernel_rfl; exact rfl; clear hs; intro w hs) | ((with_reducible apply stc hs.b0); exact rfl; exact rfl; exact rfl; exact rfl; exact rfl; kernel_rfl; exact rfl; clear hs; intro w hs) | ((with_reducible apply stc hs.b1); exact rfl; exact rfl; exact rfl; exact rfl; exact rfl; kernel_rfl; exact rfl; clear hs; intro w hs) | ((with_reducible refine wrap hs ?_); clear hs; (first | generalize w.heap.size = z1); intro w hs) | ((with_reducible refine wrap hs ?_); clear hs; intro w hs) | ((with_reducible refine wrapn hs ?_); clear hs; intro w hs) | ((with_reducible refine wrapd hs ?_); clear hs; intro w hs)))
    go_ret
    exact ⟨rfl, hs.drop⟩
  · have e0 : ¬ (g.n : Int) < 1 := by omega
    have e0' : decide ((g.n : Int) < 1) = false := decide_eq_false e0
    by_cases hi : g.nI = g.n
    · have e1 : ((g.nI : Int) != (g.n : Int)) = false := by simp; omega
      obtain ⟨r0, hr0, er0, _, b, off, eb, hc0⟩ := hg.row hs (y := 0) (by omega)
      obtain ⟨m0, hm0⟩ : ∃ m0, r0.k = m0 := ⟨_, rfl⟩
      have hm : g.gd.m = m0 := by
        have := (hg.rk2 hr0)
        unfold Gd.m
        rw [List.getD_eq_getElem?_getD, this.1, ← hm0, this.2]; rfl
      have HC0 : Hid (∀ w', sat W H w' → w'.cell? ⟨b, off, none⟩ = some (.slice r0.a m0 r0.c)) := Lib.hid (fun w' hw => by have := hc0 w' hw; rw [← hm0]; exact this)
      have HM := Lib.hid hm
      have h19 : (0 : Int) < (g.n : Int) := by omega
      have h1 : 1 ≤ g.n := by omega
      by_cases hm1 : m0 = 0
      · obtain rfl : false = q := by rw [← hq]; simp [h0, hi, hm, hm1]
        have e2 : (m0 : Int) < 1 := by omega
        have e2' : decide (m0 < 1) = true := decide_eq_true (by omega)
        clear hq hgn hg hl h0 hc0 hr0 er0 hm hm0 hm1 hi
        obtain ⟨aR, n, cR, aI, nI, cI, R, I, cy, cx, v1, v2, v3, v4, v5, v6, v7, v8⟩ := g
        obtain rfl : aR = _ := eb
        simp only at h12 h20 e0 e0' e1 h19 h1
        go_enter Try.func11, Try.ntmps11
        go_wp2_with (first | (apply ldc; exact rfl; exact rfl; exact rfl; (first | exact HC0.out _ (hs.dropN 0) | exact HC0.out _ (hs.dropN 1) | exact HC0.out _ (hs.dropN 2) | exact HC0.out _ (hs.dropN 3) | exact HC0.out _ (hs.dropN 4) | exact HC0.out _ (hs.dropN 5) | exact HC0.out _ (hs.dropN 6) | exact HC0.out _ (hs.dropN 7)); exact one57) | ((with_reducible refine isl ?_); first | ((with_reducible apply stsw hs.b0); exact rfl; exact rfl; exact rfl; exact rfl; exact row34; exact rfl; exact rfl; exact rfl; clear hs; intro w hs) | ((with_reducible apply stsw hs.b1); exact rfl; exact rfl; exact rfl; exact rfl; exact row34; exact rfl; exact rfl; exact rfl; clear hs; intro w hs) | ((with_reducible apply ld hs.b0); exact rfl; exact rfl; exact rfl; exact rfl; kernel_rfl) | ((with_reducible apply ld hs.b1); exact rfl; exact rfl; exact rfl; exact rfl; kernel_rfl) | ((with_reducible apply st hs.b0); exact rfl; exact rfl; exact rfl; exact rfl; exact rfl; exact rfl; kernel_rfl; exact rfl; clear hs; intro w hs) | ((with_reducible apply st hs.b1); exact rfl; exact rfl; exact rfl; exact rfl; exact rfl; exact rfl; kernel_rfl; exact rfl; clear hs; intro w hs) | ((with_reducible apply stc hs.b0); exact rfl; exact rfl; exact rfl; exact rfl; exact rfl; kernel_rfl; exact rfl; clear hs; intro w hs) | ((with_reducible apply stc hs.b1); exact rfl; exact rfl; exact rfl; exact rfl; exact rfl; kernel_rfl; exact rfl; clear hs; intro w hs) | ((with_reducible refine wrap hs ?_); clear hs; (first | generalize w.heap.size = z1); intro w hs) | ((with_reducible refine wrap hs ?_); clear hs; intro w hs) | ((with_reducible refine wrapn hs ?_); clear hs; intro w hs) | ((with_reducible refine wrapd hs ?_); clear hs; intro w hs)))
        go_ret
        exact ⟨rfl, hs.drop⟩
      · have HQ : Hid ((g.gd.rows.all fun r => decide (r.length = g.gd.m)) = q) := Lib.hid (by rw [← hq]; simp [h0, hi, hm, hm1])
        have e2 : decide ((m0 : Int) < 1) = false := decide_eq_false (by omega)
        have e2' : ¬ (m0 : Int) < 1 := by omega
        clear hq hgn hg hl h0 hc0 hr0 er0 hm hm0 hm1 hi
        obtain ⟨aR, n, cR, aI, nI, cI, R, I, cy, cx, v1, v2, v3, v4, v5, v6, v7, v8⟩ := g
        obtain rfl : aR = _ := eb
        simp only at h12 h20 e0 e0' e1 h19 h1
        go_enter Try.func11, Try.ntmps11
        go_wp2_with (first | (apply ldc; exact rfl; exact rfl; exact rfl; (first | exact HC0.out _ (hs.dropN 0) | exact HC0.out _ (hs.dropN 1) | exact HC0.out _ (hs.dropN 2) | exact HC0.out _ (hs.dropN 3) | exact HC0.out _ (hs.dropN 4) | exact HC0.out _ (hs.dropN 5) | exact HC0.out _ (hs.dropN 6) | exact HC0.out _ (hs.dropN 7)); exact one57) | ((with_reducible refine isl ?_); first | ((with_reducible apply stsw hs.b0); exact rfl; exact rfl; exact rfl; exact rfl; exact row34; exact rfl; exact rfl; exact rfl; clear hs; intro w hs) | ((with_reducible apply stsw hs.b1); exact rfl; exact rfl; exact rfl; exact rfl; exact row34; exact rfl; exact rfl; exact rfl; clear hs; intro w hs) | ((with_reducible apply ld hs.b0); exact rfl; exact rfl; exact rfl; exact rfl; kernel_rfl) | ((with_reducible apply ld hs.b1); exact rfl; exact rfl; exact rfl; exact rfl; kernel_rfl) | ((with_reducible apply st hs.b0); exact rfl; exact rfl; exact rfl; exact rfl; exact rfl; exact rfl; kernel_rfl; exact rfl; clear hs; intro w hs) | ((with_reducible apply st hs.b1); exact rfl; exact rfl; exact rfl; exact rfl; exact rfl; exact rfl; kernel_rfl; exact rfl; clear hs; intro w hs) | ((with_reducible apply stc hs.b0); exact rfl; exact rfl; exact rfl; exact rfl; exact rfl; kernel_rfl; exact rfl; clear hs; intro w hs) | ((with_reducible apply stc hs.b1); exact rfl; exact rfl; exact rfl; exact rfl; exact rfl; kernel_rfl; exact rfl; clear hs; intro w hs) | ((with_reducible refine wrap hs ?_); clear hs; (first | generalize w.heap.size = z1); intro w hs) | ((with_reducible refine wrap hs ?_); clear hs; intro w hs) | ((with_reducible refine wrapn hs ?_); clear hs; intro w hs) | ((with_reducible refine wrapd hs ?_); clear hs; intro w hs)))
        go_loopw [3] (fun iv wr => ∃ k : Nat, k ≤ n ∧ iv = .int .i64 (k : Int) ∧ Hid (∀ j r, j < k → (Gm.gd ⟨some ⟨b, off, none⟩, n, cR, aI, nI, cI, R, I, cy, cx, v1, v2, v3, v4, v5, v6, v7, v8⟩).rows[j]? = some r → r.length = m0) ∧ sat W (cel z1 34 (gV ⟨some ⟨b, off, none⟩, n, cR, aI, nI, cI, R, I, cy, cx, v1, v2, v3, v4, v5, v6, v7, v8⟩) :: H) wr) (fun iv _ => ((n : Int) - intOf iv).toNat)
        case atStart => exact ⟨0, Nat.zero_le _, rfl, Lib.hid (fun j r h => absurd h (Nat.not_lt_zero _)), hs⟩
        case round =>
          clear hs
          obtain ⟨k, hk, rfl, HA, hs⟩ := hrel
          by_cases hlt : k < n
          · obtain ⟨r, hr, er, hrm, b', off', eb', hc⟩ := HG.out.row hs.drop hlt
            obtain ⟨rfl, rfl⟩ : b = b' ∧ off = off' := by cases eb'; exact ⟨rfl, rfl⟩
            have HC := Lib.hid hc
            have HR := Lib.hid (HG.out.rk2 hr)
            obtain ⟨ra, rk, rc, rL⟩ := r
            have hkn : (k : Int) < (n : Int) := by omega
            clear hc hr er eb' hrm
            by_cases hkm : rk = m0
            · have hb : ((rk : Int) != (m0 : Int)) = false := by simp [hkm]
              have HA2 : Hid (∀ j r, j < k + 1 → (Gm.gd ⟨some ⟨b, off, none⟩, n, cR, aI, nI, cI, R, I, cy, cx, v1, v2, v3, v4, v5, v6, v7, v8⟩).rows[j]? = some r → r.length = m0) := Lib.hid (fun j r hj hjr => by
                by_cases h : j < k
                · exact HA.out j r h hjr
                · obtain rfl : j = k := by omega
                  rw [HR.out.1] at hjr
                  cases hjr
                  rw [← HR.out.2]; exact hkm)
              clear hkm
              go_wp2_with (first | ((try simp only [Act.put, List.setIfInBounds_toArray, List.set_cons_succ, List.set_cons_zero]); refine region_sat hs (by kernel_rfl) (by kernel_rfl) ?_; intro X f hne hf hcl; (repeat ((first | (apply ldcq; exact rfl; exact rfl; exact rfl; (first | exact fun y => HC.out _ ((hf y).dropN 0) | exact fun y => HC.out _ ((hf y).dropN 1) | exact fun y => HC.out _ ((hf y).dropN 2) | exact fun y => HC.out _ ((hf y).dropN 3) | exact fun y => HC.out _ ((hf y).dropN 4) | exact fun y => HC.out _ ((hf y).dropN 5) | exact fun y => HC.out _ ((hf y).dropN 6) | exact fun y => HC.out _ ((hf y).dropN 7)); exact one57) | (apply ldcq; exact rfl; exact rfl; exact rfl; (first | exact fun y => HC0.out _ ((hf y).dropN 0) | exact fun y => HC0.out _ ((hf y).dropN 1) | exact fun y => HC0.out _ ((hf y).dropN 2) | exact fun y => HC0.out _ ((hf y).dropN 3) | exact fun y => HC0.out _ ((hf y).dropN 4) | exact fun y => HC0.out _ ((hf y).dropN 5) | exact fun y => HC0.out _ ((hf y).dropN 6) | exact fun y => HC0.out _ ((hf y).dropN 7)); exact one57) | ((with_reducible apply ldq (fun x => (hf x).b0)); exact rfl; exact rfl; exact rfl; exact rfl; kernel_rfl) | go_big_quiet_step (fail)); (try simp only [Act.put, List.setIfInBounds_toArray, List.set_cons_succ, List.set_cons_zero]))); refine wpQuiet_nil ?_; clear hcl hf hne hs f X; intro w hs) | ((with_reducible refine isl ?_); first | ((with_reducible apply ld hs.b0); exact rfl; exact rfl; exact rfl; exact rfl; kernel_rfl) | ((with_reducible apply st hs.b0); exact rfl; exact rfl; exact rfl; exact rfl; exact rfl; exact rfl; kernel_rfl; exact rfl; clear hs; intro w hs) | ((with_reducible apply stc hs.b0); exact rfl; exact rfl; exact rfl; exact rfl; exact rfl; kernel_rfl; exact rfl; clear hs; intro w hs) | ((with_reducible refine wrap hs ?_); clear hs; intro w hs) | ((with_reducible refine wrapn hs ?_); clear hs; intro w hs) | ((with_reducible refine wrapd hs ?_); clear hs; intro w hs)))
              go_roundw
              case rel => exact ⟨k + 1, hlt, by go_num, HA2, hs⟩
              case measure => simp [intOf]; omega
            · have hb : ((rk : Int) != (m0 : Int)) = true := by simp; omega
              obtain rfl : false = q := by
                rw [← HQ.out]
                symm
                rw [List.all_eq_false]
                refine ⟨_, List.mem_of_getElem? HR.out.1, ?_⟩
                rw [HM.out, ← HR.out.2]
                simpa using hkm
              clear hkm
              go_wp2_with (first | ((try simp only [Act.put, List.setIfInBounds_toArray, List.set_cons_succ, List.set_cons_zero]); refine region_sat hs (by kernel_rfl) (by kernel_rfl) ?_; intro X f hne hf hcl; (repeat ((first | (apply ldcq; exact rfl; exact rfl; exact rfl; (first | exact fun y => HC.out _ ((hf y).dropN 0) | exact fun y => HC.out _ ((hf y).dropN 1) | exact fun y => HC.out _ ((hf y).dropN 2) | exact fun y => HC.out _ ((hf y).dropN 3) | exact fun y => HC.out _ ((hf y).dropN 4) | exact fun y => HC.out _ ((hf y).dropN 5) | exact fun y => HC.out _ ((hf y).dropN 6) | exact fun y => HC.out _ ((hf y).dropN 7)); exact one57) | (apply ldcq; exact rfl; exact rfl; exact rfl; (first | exact fun y => HC0.out _ ((hf y).dropN 0) | exact fun y => HC0.out _ ((hf y).dropN 1) | exact fun y => HC0.out _ ((hf y).dropN 2) | exact fun y => HC0.out _ ((hf y).dropN 3) | exact fun y => HC0.out _ ((hf y).dropN 4) | exact fun y => HC0.out _ ((hf y).dropN 5) | exact fun y => HC0.out _ ((hf y).dropN 6) | exact fun y => HC0.out _ ((hf y).dropN 7)); exact one57) | ((with_reducible apply ldq (fun x => (hf x).b0)); exact rfl; exact rfl; exact rfl; exact rfl; kernel_rfl) | go_big_quiet_step (fail)); (try simp only [Act.put, List.setIfInBounds_toArray, List.set_cons_succ, List.set_cons_zero]))); refine wpQuiet_nil ?_; clear hcl hf hne hs f X; intro w hs) | ((with_reducible refine isl ?_); first | ((with_reducible apply ld hs.b0); exact rfl; exact rfl; exact rfl; exact rfl; kernel_rfl) | ((with_reducible apply st hs.b0); exact rfl; exact rfl; exact rfl; exact rfl; exact rfl; exact rfl; kernel_rfl; exact rfl; clear hs; intro w hs) | ((with_reducible apply stc hs.b0); exact rfl; exact rfl; exact rfl; exact rfl; exact rfl; kernel_rfl; exact rfl; clear hs; intro w hs) | ((with_reducible refine wrap hs ?_); clear hs; intro w hs) | ((with_reducible refine wrapn hs ?_); clear hs; intro w hs) | ((with_reducible refine wrapd hs ?_); clear hs; intro w hs)))
              go_ret
              exact ⟨rfl, hs.drop⟩
          · obtain rfl : n = k := by omega
            obtain rfl : true = q := by
              rw [← HQ.out]
              symm
              rw [List.all_eq_true]
              intro r hr
              obtain ⟨j, hj⟩ := List.mem_iff_getElem?.1 hr
              have hjl := (List.getElem?_eq_some_iff.1 hj).1
              rw [HN.out.1] at hjl
              rw [HM.out]
              simpa using HA.out j r hjl hj
            go_wp2_with (first | ((with_reducible refine isl ?_); first | ((with_reducible apply ld hs.b0); exact rfl; exact rfl; exact rfl; exact rfl; kernel_rfl) | ((with_reducible apply st hs.b0); exact rfl; exact rfl; exact rfl; exact rfl; exact rfl; exact rfl; kernel_rfl; exact rfl; clear hs; intro w hs) | ((with_reducible apply stc hs.b0); exact rfl; exact rfl; exact rfl; exact rfl; exact rfl; kernel_rfl; exact rfl; clear hs; intro w hs) | ((with_reducible refine wrap hs ?_); clear hs; intro w hs) | ((with_reducible refine wrapn hs ?_); clear hs; intro w hs) | ((with_reducible refine wrapd hs ?_); clear hs; intro w hs)))
            go_ret
            exact ⟨rfl, hs.drop⟩
    · obtain rfl : false = q := by rw [← hq]; simp [hi]
      have e1 : ((g.nI : Int) != (g.n : Int)) = true := by simp; omega
      clear hq hgn hg hl h0 hi
      obtain ⟨aR, n, cR, aI, nI, cI, R, I, cy, cx, v1, v2, v3, v4, v5, v6, v7, v8⟩ := g
      simp only at h12 h20 e0 e0' e1
      go_enter Try.func11, Try.ntmps11
      go_wp2_with (first | (apply ldc; exact rfl; exact rfl; exact rfl; (first | exact HC0.out _ (hs.dropN 0) | exact HC0.out _ (hs.dropN 1) | exact HC0.out _ (hs.dropN 2) | exact HC0.out _ (hs.dropN 3) | exact HC0.out _ (hs.dropN 4) | exact HC0.out _ (hs.dropN 5) | exact HC0.out _ (hs.dropN 6) | exact HC0.out _ (hs.dropN 7)); exact one57) | ((with_reducible refine isl ?_); first | ((with_reducible apply stsw hs.b0); exact rfl; exact rfl; exact rfl; exact rfl; exact row34; exact rfl; exact rfl; exact rfl; clear hs; intro w hs) | ((with_reducible apply stsw hs.b1); exact rfl; exact rfl; exact rfl; exact rfl; exact row34; exact rfl; exact rfl; exact rfl; clear hs; intro w hs) | ((with_reducible apply ld hs.b0); exact rfl; exact rfl; exact rfl; exact rfl; kernel_rfl) | ((with_reducible apply ld hs.b1); exact rfl; exact rfl; exact rfl; exact rfl; kernel_rfl) | ((with_reducible apply st hs.b0); exact rfl; exact rfl; exact rfl; exact rfl; exact rfl; exact rfl; kernel_rfl; exact rfl; clear hs; intro w hs) | ((with_reducible apply st hs.b1); exact rfl; exact rfl; exact rfl; exact rfl; exact rfl; exact rfl; kernel_rfl; exact rfl; clear hs; intro w hs) | ((with_reducible apply stc hs.b0); exact rfl; exact rfl; exact rfl; exact rfl; exact rfl; kernel_rfl; exact rfl; clear hs; intro w hs) | ((with_reducible apply stc hs.b1); exact rfl; exact rfl; exact rfl; exact rfl; exact rfl; kernel_rfl; exact rfl; clear hs; intro w hs) | ((with_reducible refine wrap hs ?_); clear hs; (first | generalize w.heap.size = z1); intro w hs) | ((with_reducible refine wrap hs ?_); clear hs; intro w hs) | ((with_reducible refine wrapn hs ?_); clear hs; intro w hs) | ((with_reducible refine wrapd hs ?_); clear hs; intro w hs)))
      go_ret
      exact ⟨rfl, hs.drop⟩
end Go.Proofs.Ytcheljogpffabaa
