import Derived.Test.YtdbhgjkdblhhkaaP7
import Derived.Test.YtdbhgjkdblhhkaaSv
import Derived.Below
namespace Go.Proofs.Ytdbhgjkdblhhkaa
open Go.RowKit Go.Mem
variable {W w : World} {H : List HProp}
theorem rdc_cel {g c : Nat} {l : List Int} (h1 : l.length ≤ c) (h2 : c ≤ maxLen) : RdC [cel g 5 (bytesV l)] (some ⟨g, 0, none⟩) l.length c l := fun W0 w' hs =>
  ⟨by simp, h1, h2, fun w2 h2 i cs hi => by
    simp at hi
    obtain ⟨x, hx, rfl⟩ := hi
    refine ⟨rfl, g, 0, rfl, fun j v hj => ?_⟩
    cases j with
    | zero =>
      simp at hj
      subst hj
      exact h2.cel_cell (by simp [hx])
    | succ j => simp at hj⟩
theorem rdc_nil : RdC [] none 0 0 [] := fun W0 w' hs => SR.nil rfl (by unfold maxLen; omega)
theorem natsV_ints (l : List Nat) : natsV l = (l.map fun n : Nat => (n : Int)).map (Value.int .i64) := by simp
attribute [local irreducible] World.setCell World.setCells World.alloc World.drew World.drewN Calls sat cel own blk old wpQuiet wpList


theorem same_no (a b : Value) (xs ys : List Int) (w : World) (ha : Reads w a (xs.map (Value.int .i64))) (hb : Reads w b (ys.map (Value.int .i64))) (hne : xs.length ≠ ys.length) :
    Calls Try.prog 18 #[a, b] w fun e w' => e = .returned (.bool (decide (xs = ys))) ∧ ∃ n, w' = w.drewN n := by
  have HF := Lib.hid (show decide (xs = ys) = false by simp; rintro rfl; exact hne rfl)
  obtain ⟨h1, a, c, rfl, _⟩ := ha
  obtain ⟨h2, b, c', rfl, _⟩ := hb
  simp only [List.length_map] at *
  have e1 : ((xs.length : Int) != (ys.length : Int)) = true := by simp; omega
  unfold maxLen at h1 h2
  go_enter Try.func18, Try.ntmps18
  go_wp2
  go_ret
  exact ⟨ret_bool HF.out, 0, (World.drewN_zero w).symm⟩

set_option maxHeartbeats 400000 in
theorem same_eq (a b : Value) (xs ys : List Int) (w : World) (ha : Reads w a (xs.map (Value.int .i64))) (hb : Reads w b (ys.map (Value.int .i64))) (hne : xs.length = ys.length) :
    Calls Try.prog 18 #[a, b] w fun e w' => e = .returned (.bool (decide (xs = ys))) ∧ ∃ n, w' = w.drewN n := by
  obtain ⟨h1, a, c, rfl, ka⟩ := ha
  obtain ⟨h2, b, c', rfl, kb⟩ := hb
  simp only [List.length_map] at *
  obtain ⟨n, hn⟩ : ∃ n, n = xs.length := ⟨_, rfl⟩
  have hn2 : n = ys.length := by omega
  have ga : 0 < n → ∃ g off, a = some ⟨g, off, none⟩ ∧ ∀ i, i < n → w.cell? ⟨g, off + i, none⟩ = some (.int .i64 (xs.getD i 0)) := fun hp => by
    obtain ⟨g, off, rfl, hc⟩ := ka (by intro h; simp at h; subst h; simp at hn; omega)
    exact ⟨g, off, rfl, fun i hi => hc i _ (ints_get (by omega))⟩
  have gb : 0 < n → ∃ g off, b = some ⟨g, off, none⟩ ∧ ∀ i, i < n → w.cell? ⟨g, off + i, none⟩ = some (.int .i64 (ys.getD i 0)) := fun hp => by
    obtain ⟨g, off, rfl, hc⟩ := kb (by intro h; simp at h; subst h; simp at hn2; omega)
    exact ⟨g, off, rfl, fun i hi => hc i _ (ints_get (by omega))⟩
  have HN := Lib.hid hn
  have HN2 := Lib.hid hn2
  rw [← hn] at h1
  rw [← hn, ← hn2]
  clear ka kb hne hn hn2 h2
  unfold maxLen at h1
  have e1 : ((n : Int) != (n : Int)) = false := by simp
  have HA := Lib.hid ga
  have HB := Lib.hid gb
  clear ga gb
  go_enter Try.func18, Try.ntmps18
  go_wp2
  go_loopw [5] (fun i wr => ∃ k : Nat, k ≤ n ∧ i = .int .i64 k ∧ (∀ j, j < k → xs.getD j 0 = ys.getD j 0) ∧ ∃ m, wr = w.drewN m) (fun i _ => n - (intOf i).toNat)
  case atStart => exact ⟨0, Nat.zero_le _, rfl, fun j hj => by omega, 0, (World.drewN_zero w).symm⟩
  case round =>
    obtain ⟨k, hk, rfl, hj, m, rfl⟩ := hrel
    have HJ := Lib.hid hj
    clear hj
    by_cases hlt : k < n
    · obtain ⟨g, off, rfl, hc⟩ := HA.out (by omega)
      obtain ⟨g', off', rfl, hc'⟩ := HB.out (by omega)
      have c1 := hc k hlt
      have c2 := hc' k hlt
      clear hc hc'
      generalize hx : xs.getD k 0 = x at *
      generalize hy : ys.getD k 0 = y at *
      have HX := Lib.hid hx
      have HY := Lib.hid hy
      clear hx hy
      by_cases hxy : x = y
      · have e2 : (x != y) = false := by simpa using hxy
        have HXY := Lib.hid hxy
        clear hxy
        go_wp2
        go_quiet (fail)
        go_wp2
        go_roundw
        case rel => exact ⟨k + 1, by omega, by go_num, fun j hj => by
          by_cases e : j = k
          · subst e; rw [HX.out, HY.out, HXY.out]
          · exact HJ.out j (by omega), _, rfl⟩
        case measure => simp [intOf]; omega
      · have e2 : (x != y) = true := by simpa using hxy
        have HF := Lib.hid (show decide (xs = ys) = false by simp; intro h; rw [← HX.out, ← HY.out, h] at hxy; exact hxy rfl)
        clear hxy
        go_wp2
        go_quiet (fail)
        go_wp2
        go_ret
        exact ⟨ret_bool HF.out, _, World.drewN_drewN _ _ _⟩
    · have HF := Lib.hid (show decide (xs = ys) = true by
        simp only [decide_eq_true_eq]
        have h1 := HN.out
        have h2 := HN2.out
        apply List.ext_getElem (by omega)
        intro i h3 h4
        have := HJ.out i (by omega)
        rw [List.getD_eq_getElem?_getD, List.getD_eq_getElem?_getD, List.getElem?_eq_getElem h3, List.getElem?_eq_getElem h4] at this
        exact this)
      go_wp2
      go_ret
      exact ⟨ret_bool HF.out, _, rfl⟩

theorem same_any (a b : Value) (xs ys : List Int) (w : World) (ha : Reads w a (xs.map (Value.int .i64))) (hb : Reads w b (ys.map (Value.int .i64))) :
    Calls Try.prog 18 #[a, b] w fun e w' => e = .returned (.bool (decide (xs = ys))) ∧ ∃ n, w' = w.drewN n := by
  by_cases h : xs.length = ys.length
  · exact same_eq a b xs ys w ha hb h
  · exact same_no a b xs ys w ha hb h

theorem same_self (a b : Value) (xs : List Int) (w : World) (ha : Reads w a (xs.map (Value.int .i64))) (hb : Reads w b (xs.map (Value.int .i64))) :
    Calls Try.prog 18 #[a, b] w fun e w' => e = .returned (.bool true) ∧ ∃ n, w' = w.drewN n :=
  (same_any a b xs xs w ha hb).mono fun e w' ⟨he, hn⟩ => ⟨by rw [he, decide_eq_true rfl], hn⟩

theorem same_t {a b : Value} {xs : List Nat} (ha : Reads w a (natsV xs)) (hb : Reads w b (natsV xs)) (hs : sat W H w) : Calls Try.prog 18 #[a, b] w fun e w' => e = .returned (.bool true) ∧ sat W H w' :=
  (same_self a b _ w (natsV_ints xs ▸ ha) (natsV_ints xs ▸ hb)).mono fun _ _ ⟨h, k, e⟩ => ⟨h, e ▸ hs.drewN k⟩
theorem begins_t {cells : List Int} {wd : Nat} {x : Int} (hx : x = wd) (hw : 0 < wd) (hw2 : wd ≤ 80) {Hc : List HProp} {a : Option Addr} {n c : Nat} {xs : List Nat} (hr : RdC Hc a n c cells) (hl : cells.length ≤ 1000) (hb : Pan.begs cells wd hw 0 = xs) (hs : sat W (Hc ++ H) w) :
    Calls Try.prog 9 #[.slice a n c, .int .i64 x] w fun e w' => ∃ a' c', e = .returned (.slice a' xs.length c') ∧ sat W (own 3 1 (.slice a' xs.length c') xs.length (natsV xs) :: (Hc ++ H)) w' := by
  subst hb hx
  exact begins9 hw hw2 hr hl hs
def L1 : List Int := [1, 1, 0, 1, 1, 1, 0, 1]
def L2 : List Int := [1, 1, 1, 1, 1, 1, 1, 1, 1]
theorem b1 : Pan.begs L1 4 (by decide) 0 = [0, 3, 7] := by
  rw [Pan.begs_more (by decide), show Pan.next L1 4 0 = 3 from by decide, Pan.begs_more (by decide), show Pan.next L1 4 3 = 7 from by decide, Pan.begs_last (by decide)]
theorem b2 : Pan.begs L2 4 (by decide) 0 = [0, 4, 8] := by
  rw [Pan.begs_more (by decide), show Pan.next L2 4 0 = 4 from by decide, Pan.begs_more (by decide), show Pan.next L2 4 4 = 8 from by decide, Pan.begs_last (by decide)]
theorem b3 : Pan.begs [] 4 (by decide) 0 = [0] := by
  rw [Pan.begs_last (by decide)]
set_option maxHeartbeats 1000000 in
theorem known8 (hs : sat W H w) : Calls Try.prog 8 #[] w fun e w' => e = .returned (.bool true) ∧ sat W H w' := by
  have B1 := Lib.hid b1
  have B2 := Lib.hid b2
  have B3 := Lib.hid b3
  go_enter Try.func8, Try.ntmps8
  go_wp2_with (first | (go_at_call 9; refine (begins_t (cells := L1) (wd := 4) (Hc := [_]) (H := _) rfl (by decide) (by decide) (rdc_cel (l := L1) (g := z1) (by decide) (by unfold maxLen; decide)) (by decide) B1.out hs).mono ?_; clear hs; rintro e w ⟨a1, c1, rfl, hs⟩) | (go_at_call 9; refine (begins_t (cells := L2) (wd := 4) (Hc := [_]) (H := _) rfl (by decide) (by decide) (rdc_cel (l := L2) (g := z2) (by decide) (by unfold maxLen; decide)) (by decide) B2.out hs).mono ?_; clear hs; rintro e w ⟨a2, c2, rfl, hs⟩) | (go_at_call 9; refine (begins_t (cells := []) (wd := 4) (Hc := []) (H := _) rfl (by decide) (by decide) rdc_nil (by decide) B3.out hs).mono ?_; clear hs; rintro e w ⟨a3, c3, rfl, hs⟩) | (go_at_call 18; refine (same_t (xs := [0, 3, 7]) (by (first | exact hs.b0.own_reads.1 | exact hs.b1.own_reads.1 | exact hs.b2.own_reads.1 | exact hs.b3.own_reads.1 | exact hs.b4.own_reads.1 | exact hs.b5.own_reads.1)) (hs.cel_reads (by unfold maxLen; decide)) hs).mono ?_; clear hs; rintro e w ⟨rfl, hs⟩) | (go_at_call 18; refine (same_t (xs := [0, 4, 8]) (by (first | exact hs.b0.own_reads.1 | exact hs.b1.own_reads.1 | exact hs.b2.own_reads.1 | exact hs.b3.own_reads.1 | exact hs.b4.own_reads.1 | exact hs.b5.own_reads.1)) (hs.cel_reads (by unfold maxLen; decide)) hs).mono ?_; clear hs; rintro e w ⟨rfl, hs⟩) | (go_at_call 18; refine (same_t (xs := [0]) (by (first | exact hs.b0.own_reads.1 | exact hs.b1.own_reads.1 | exact hs.b2.own_reads.1 | exact hs.b3.own_reads.1 | exact hs.b4.own_reads.1 | exact hs.b5.own_reads.1)) (hs.cel_reads (by unfold maxLen; decide)) hs).mono ?_; clear hs; rintro e w ⟨rfl, hs⟩) | ((with_reducible refine isl ?_); first | ((with_reducible refine wrap hs ?_); clear hs; (first | (have _t := z4; clear _t; generalize w.heap.size = z5) | (have _t := z3; clear _t; generalize w.heap.size = z4) | (have _t := z2; clear _t; generalize w.heap.size = z3) | (have _t := z1; clear _t; generalize w.heap.size = z2) | generalize w.heap.size = z1); intro w hs) | ((with_reducible refine wrap hs ?_); clear hs; intro w hs) | ((with_reducible refine wrapn hs ?_); clear hs; intro w hs) | ((with_reducible refine wrapd hs ?_); clear hs; intro w hs)))
  go_ret
  exact ⟨rfl, by simp only [List.cons_append, List.nil_append] at hs; (refine sat_from ?_ hs; repeat (first | exact Sub.refl _ | exact Sub.nil _ | refine Sub.c0 ?_ | refine Sub.c1 ?_ | refine Sub.c2 ?_ | refine Sub.c3 ?_ | refine Sub.c4 ?_ | refine Sub.c5 ?_ | refine Sub.c6 ?_ | refine Sub.c7 ?_ | refine Sub.c8 ?_ | refine Sub.c9 ?_ | refine Sub.skip ?_))⟩
end Go.Proofs.Ytdbhgjkdblhhkaa
