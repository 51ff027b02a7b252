import Derived.Test.YtappjlebkjmooaaP3
namespace Go.Proofs.Ytappjlebkjmooaa
open Go.RowKit Go.Mem
variable {W w : World} {H : List HProp}
attribute [local irreducible] World.setCell World.alloc World.drew World.drewN Calls sat cel own blk old

/-! ## Same -/
theorem reads_len {w : World} {v : Value} {xs : List Value} (h : Reads w v xs) : ∃ a c, v = .slice a xs.length c := by
  obtain ⟨_, a, c, rfl, _⟩ := h; exact ⟨a, c, rfl⟩

theorem same_no (a b : Value) (xs ys : List Int) (w : World) (ha : Reads w a (xs.map (Value.int .i64))) (hb : Reads w b (ys.map (Value.int .i64))) (hne : xs.length ≠ ys.length) :
    Calls Try.prog 19 #[a, b] w fun e w' => e = .returned (.bool (decide (xs = ys))) ∧ ∃ n, w' = w.drewN n := by
  have HF := Lib.hid (show decide (xs = ys) = false by simp; rintro rfl; exact hne rfl)
  obtain ⟨h1, a, c, rfl, _⟩ := ha
  obtain ⟨h2, b, c', rfl, _⟩ := hb
  simp only [List.length_map] at *
  have e1 : ((xs.length : Int) != (ys.length : Int)) = true := by simp; omega
  unfold maxLen at h1 h2
  go_enter Try.func19, Try.ntmps19
  go_wp2
  go_ret
  exact ⟨ret_bool HF.out, 0, (World.drewN_zero w).symm⟩

set_option maxHeartbeats 400000 in
theorem same_eq (a b : Value) (xs ys : List Int) (w : World) (ha : Reads w a (xs.map (Value.int .i64))) (hb : Reads w b (ys.map (Value.int .i64))) (hne : xs.length = ys.length) :
    Calls Try.prog 19 #[a, b] w fun e w' => e = .returned (.bool (decide (xs = ys))) ∧ ∃ n, w' = w.drewN n := by
  obtain ⟨h1, a, c, rfl, ka⟩ := ha
  obtain ⟨h2, b, c', rfl, kb⟩ := hb
  simp only [List.length_map] at *
  obtain ⟨n, hn⟩ : ∃ n, n = xs.length := ⟨_, rfl⟩
  have hn2 : n = ys.length := by omega
  have ga : 0 < n → ∃ g off, a = some ⟨g, off, none⟩ ∧ ∀ i, i < n → w.cell? ⟨g, off + i, none⟩ = some (.int .i64 (xs.getD i 0)) := fun hp => by
    obtain ⟨g, off, rfl, hc⟩ := ka (by intro h; simp at h; subst h; simp at hn; omega)
    exact ⟨g, off, rfl, fun i hi => hc i _ (ints_get (by omega))⟩
  have gb : 0 < n → ∃ g off, b = some ⟨g, off, none⟩ ∧ ∀ i, i < n → w.cell? ⟨g, off + i, none⟩ = some (.int .i64 (ys.getD i 0)) := fun hp => by
    obtain ⟨g, off, rfl, hc⟩ := kb (by intro h; simp at h; subst h; simp at hn2; omega)
    exact ⟨g, off, rfl, fun i hi => hc i _ (ints_get (by omega))⟩
  have HN := Lib.hid hn
  have HN2 := Lib.hid hn2
  rw [← hn] at h1
  rw [← hn, ← hn2]
  clear ka kb hne hn hn2 h2
  unfold maxLen at h1
  have e1 : ((n : Int) != (n : Int)) = false := by simp
  have HA := Lib.hid ga
  have HB := Lib.hid gb
  clear ga gb
  go_enter Try.func19, Try.ntmps19
  go_wp2
  go_loopw [5] (fun i wr => ∃ k : Nat, k ≤ n ∧ i = .int .i64 k ∧ (∀ j, j < k → xs.getD j 0 = ys.getD j 0) ∧ ∃ m, wr = w.drewN m) (fun i _ => n - (intOf i).toNat)
  case atStart => exact ⟨0, Nat.zero_le _, rfl, fun j hj => by omega, 0, (World.drewN_zero w).symm⟩
  case round =>
    obtain ⟨k, hk, rfl, hj, m, rfl⟩ := hrel
    have HJ := Lib.hid hj
    clear hj
    by_cases hlt : k < n
    · obtain ⟨g, off, rfl, hc⟩ := HA.out (by omega)
      obtain ⟨g', off', rfl, hc'⟩ := HB.out (by omega)
      have c1 := hc k hlt
      have c2 := hc' k hlt
      clear hc hc'
      generalize hx : xs.getD k 0 = x at *
      generalize hy : ys.getD k 0 = y at *
      have HX := Lib.hid hx
      have HY := Lib.hid hy
      clear hx hy
      by_cases hxy : x = y
      · have e2 : (x != y) = false := by simpa using hxy
        have HXY := Lib.hid hxy
        clear hxy
        go_wp2
        go_quiet (fail)
        go_wp2
        go_roundw
        case rel => exact ⟨k + 1, by omega, by go_num, fun j hj => by
          by_cases e : j = k
          · subst e; rw [HX.out, HY.out, HXY.out]
          · exact HJ.out j (by omega), _, rfl⟩
        case measure => simp [intOf]; omega
      · have e2 : (x != y) = true := by simpa using hxy
        have HF := Lib.hid (show decide (xs = ys) = false by simp; intro h; rw [← HX.out, ← HY.out, h] at hxy; exact hxy rfl)
        clear hxy
        go_wp2
        go_quiet (fail)
        go_wp2
        go_ret
        exact ⟨ret_bool HF.out, _, World.drewN_drewN _ _ _⟩
    · have HF := Lib.hid (show decide (xs = ys) = true by
        simp only [decide_eq_true_eq]
        have h1 := HN.out
        have h2 := HN2.out
        apply List.ext_getElem (by omega)
        intro i h3 h4
        have := HJ.out i (by omega)
        rw [List.getD_eq_getElem?_getD, List.getD_eq_getElem?_getD, List.getElem?_eq_getElem h3, List.getElem?_eq_getElem h4] at this
        exact this)
      go_wp2
      go_ret
      exact ⟨ret_bool HF.out, _, rfl⟩

theorem same_any (a b : Value) (xs ys : List Int) (w : World) (ha : Reads w a (xs.map (Value.int .i64))) (hb : Reads w b (ys.map (Value.int .i64))) :
    Calls Try.prog 19 #[a, b] w fun e w' => e = .returned (.bool (decide (xs = ys))) ∧ ∃ n, w' = w.drewN n := by
  by_cases h : xs.length = ys.length
  · exact same_eq a b xs ys w ha hb h
  · exact same_no a b xs ys w ha hb h

end Go.Proofs.Ytappjlebkjmooaa
