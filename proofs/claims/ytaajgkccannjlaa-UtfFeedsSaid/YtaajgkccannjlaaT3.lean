import Derived.Test.YtaajgkccannjlaaT2
import Derived.Test.YtaajgkccannjlaaSz
namespace Go.Proofs.Ytaajgkccannjlaa
open Go.RowKit Go.Mem Go.Utf
variable {W w : World} {H : List HProp}
attribute [local irreducible] World.setCell World.alloc World.drew World.drewN Calls sat cel own blk old wpQuiet first


theorem same_no (a b : Value) (xs ys : List Int) (w : World) (ha : Reads w a (xs.map (Value.int .i32))) (hb : Reads w b (ys.map (Value.int .i32))) (hne : xs.length ≠ ys.length) :
    Calls Try.prog 10 #[a, b] w fun e w' => e = .returned (.bool (decide (xs = ys))) ∧ ∃ n, w' = w.drewN n := by
  have HF := Lib.hid (show decide (xs = ys) = false by simp; rintro rfl; exact hne rfl)
  obtain ⟨h1, a, c, rfl, _⟩ := ha
  obtain ⟨h2, b, c', rfl, _⟩ := hb
  simp only [List.length_map] at *
  have e1 : ((xs.length : Int) != (ys.length : Int)) = true := by simp; omega
  unfold maxLen at h1 h2
  go_enter Try.func10, Try.ntmps10
  go_wp2
  go_ret
  exact ⟨ret_bool HF.out, 0, (World.drewN_zero w).symm⟩

set_option maxHeartbeats 400000 in
theorem same_eq (a b : Value) (xs ys : List Int) (w : World) (ha : Reads w a (xs.map (Value.int .i32))) (hb : Reads w b (ys.map (Value.int .i32))) (hne : xs.length = ys.length) :
    Calls Try.prog 10 #[a, b] w fun e w' => e = .returned (.bool (decide (xs = ys))) ∧ ∃ n, w' = w.drewN n := by
  obtain ⟨h1, a, c, rfl, ka⟩ := ha
  obtain ⟨h2, b, c', rfl, kb⟩ := hb
  simp only [List.length_map] at *
  obtain ⟨n, hn⟩ : ∃ n, n = xs.length := ⟨_, rfl⟩
  have hn2 : n = ys.length := by omega
  have ga : 0 < n → ∃ g off, a = some ⟨g, off, none⟩ ∧ ∀ i, i < n → w.cell? ⟨g, off + i, none⟩ = some (.int .i32 (xs.getD i 0)) := fun hp => by
    obtain ⟨g, off, rfl, hc⟩ := ka (by intro h; simp at h; subst h; simp at hn; omega)
    exact ⟨g, off, rfl, fun i hi => hc i _ (ints_get (by omega))⟩
  have gb : 0 < n → ∃ g off, b = some ⟨g, off, none⟩ ∧ ∀ i, i < n → w.cell? ⟨g, off + i, none⟩ = some (.int .i32 (ys.getD i 0)) := fun hp => by
    obtain ⟨g, off, rfl, hc⟩ := kb (by intro h; simp at h; subst h; simp at hn2; omega)
    exact ⟨g, off, rfl, fun i hi => hc i _ (ints_get (by omega))⟩
  have HN := Lib.hid hn
  have HN2 := Lib.hid hn2
  rw [← hn] at h1
  rw [← hn, ← hn2]
  clear ka kb hne hn hn2 h2
  unfold maxLen at h1
  have e1 : ((n : Int) != (n : Int)) = false := by simp
  have HA := Lib.hid ga
  have HB := Lib.hid gb
  clear ga gb
  go_enter Try.func10, Try.ntmps10
  go_wp2
  go_loopw [5] (fun i wr => ∃ k : Nat, k ≤ n ∧ i = .int .i64 k ∧ (∀ j, j < k → xs.getD j 0 = ys.getD j 0) ∧ ∃ m, wr = w.drewN m) (fun i _ => n - (intOf i).toNat)
  case atStart => exact ⟨0, Nat.zero_le _, rfl, fun j hj => by omega, 0, (World.drewN_zero w).symm⟩
  case round =>
    obtain ⟨k, hk, rfl, hj, m, rfl⟩ := hrel
    have HJ := Lib.hid hj
    clear hj
    by_cases hlt : k < n
    · obtain ⟨g, off, rfl, hc⟩ := HA.out (by omega)
      obtain ⟨g', off', rfl, hc'⟩ := HB.out (by omega)
      have c1 := hc k hlt
      have c2 := hc' k hlt
      clear hc hc'
      generalize hx : xs.getD k 0 = x at *
      generalize hy : ys.getD k 0 = y at *
      have HX := Lib.hid hx
      have HY := Lib.hid hy
      clear hx hy
      by_cases hxy : x = y
      · have e2 : (x != y) = false := by simpa using hxy
        have HXY := Lib.hid hxy
        clear hxy
        go_wp2
        go_quiet (fail)
        go_wp2
        go_roundw
        case rel => exact ⟨k + 1, by omega, by go_num, fun j hj => by
          by_cases e : j = k
          · subst e; rw [HX.out, HY.out, HXY.out]
          · exact HJ.out j (by omega), _, rfl⟩
        case measure => simp [intOf]; omega
      · have e2 : (x != y) = true := by simpa using hxy
        have HF := Lib.hid (show decide (xs = ys) = false by simp; intro h; rw [← HX.out, ← HY.out, h] at hxy; exact hxy rfl)
        clear hxy
        go_wp2
        go_quiet (fail)
        go_wp2
        go_ret
        exact ⟨ret_bool HF.out, _, World.drewN_drewN _ _ _⟩
    · have HF := Lib.hid (show decide (xs = ys) = true by
        simp only [decide_eq_true_eq]
        have h1 := HN.out
        have h2 := HN2.out
        apply List.ext_getElem (by omega)
        intro i h3 h4
        have := HJ.out i (by omega)
        rw [List.getD_eq_getElem?_getD, List.getD_eq_getElem?_getD, List.getElem?_eq_getElem h3, List.getElem?_eq_getElem h4] at this
        exact this)
      go_wp2
      go_ret
      exact ⟨ret_bool HF.out, _, rfl⟩

theorem same_any (a b : Value) (xs ys : List Int) (w : World) (ha : Reads w a (xs.map (Value.int .i32))) (hb : Reads w b (ys.map (Value.int .i32))) :
    Calls Try.prog 10 #[a, b] w fun e w' => e = .returned (.bool (decide (xs = ys))) ∧ ∃ n, w' = w.drewN n := by
  by_cases h : xs.length = ys.length
  · exact same_eq a b xs ys w ha hb h
  · exact same_no a b xs ys w ha hb h

theorem same_self (a b : Value) (xs : List Int) (w : World) (ha : Reads w a (xs.map (Value.int .i32))) (hb : Reads w b (xs.map (Value.int .i32))) :
    Calls Try.prog 10 #[a, b] w fun e w' => e = .returned (.bool true) ∧ ∃ n, w' = w.drewN n :=
  (same_any a b xs xs w ha hb).mono fun e w' ⟨he, hn⟩ => ⟨by rw [he, decide_eq_true rfl], hn⟩

theorem size24 (a : Int) (w : World) : Calls Try.prog 24 #[.int .u8 a] w fun e w' => e = .returned (.int .i64 (size a : Nat)) ∧ w' = w := by
  rcases size_cases a with ⟨h1, h2⟩ | ⟨h1, h1', h2⟩ | ⟨h1, h1', h2⟩ | ⟨h1, h1', h2⟩ | ⟨h1, h2⟩
  rotate_right
  · rcases h1 with ⟨h1, h1'⟩ | h1
    all_goals
      have HS := Lib.hid h2
      clear h2
      go_enter Try.func24, Try.ntmps24
      go_wp2
      go_ret
      exact ⟨by rw [HS.out]; rfl, rfl⟩
  all_goals
    have HS := Lib.hid h2
    clear h2
    go_enter Try.func24, Try.ntmps24
    go_wp2
    go_ret
    exact ⟨by rw [HS.out]; rfl, rfl⟩
theorem second27 (a x : Int) (w : World) : Calls Try.prog 27 #[.int .u8 a, .int .u8 x] w fun e w' => e = .returned (.bool (decide (okAt a 1 x))) ∧ w' = w := by
  have hl := lohi a
  have HD : ∀ b : Bool, (okAt a 1 x ↔ b = true) → Hid (decide (okAt a 1 x) = b) := fun b h => Lib.hid (by cases b <;> simp [h])
  have hc : (lo a ≤ x ∧ x ≤ hi a) ∨ x < lo a ∨ (lo a ≤ x ∧ hi a < x) := by omega
  rcases hc with hc | hc | hc
  · have HD := HD true (by rw [ok1]; simp [hc])
    rcases hl with ⟨rfl, h1, h2⟩ | ⟨rfl, h1, h2⟩ | ⟨rfl, h1, h2⟩ | ⟨rfl, h1, h2⟩ | ⟨n1, n2, n3, n4, h1, h2⟩
    all_goals
      rw [h1, h2] at hc
      obtain ⟨hc, hd⟩ := hc
      clear h1 h2
      try (have e1 := beq_no n1; have e2 := beq_no n2; have e3 := beq_no n3; have e4 := beq_no n4)
      go_enter Try.func27, Try.ntmps27
      go_wp2
      go_ret
      exact ⟨by rw [HD.out]; try first | rfl | exact ret_bool (decide_eq_false (by omega)).symm, rfl⟩
  · have HD := HD false (by rw [ok1]; simp; omega)
    rcases hl with ⟨rfl, h1, h2⟩ | ⟨rfl, h1, h2⟩ | ⟨rfl, h1, h2⟩ | ⟨rfl, h1, h2⟩ | ⟨n1, n2, n3, n4, h1, h2⟩
    all_goals
      rw [h1] at hc
      clear h1 h2
      try (have e1 := beq_no n1; have e2 := beq_no n2; have e3 := beq_no n3; have e4 := beq_no n4)
      go_enter Try.func27, Try.ntmps27
      go_wp2
      go_ret
      exact ⟨by rw [HD.out]; try first | rfl | exact ret_bool (decide_eq_false (by omega)).symm, rfl⟩
  · have HD := HD false (by rw [ok1]; simp; omega)
    rcases hl with ⟨rfl, h1, h2⟩ | ⟨rfl, h1, h2⟩ | ⟨rfl, h1, h2⟩ | ⟨rfl, h1, h2⟩ | ⟨n1, n2, n3, n4, h1, h2⟩
    all_goals
      rw [h1, h2] at hc
      obtain ⟨hc, hd⟩ := hc
      clear h1 h2
      try (have e1 := beq_no n1; have e2 := beq_no n2; have e3 := beq_no n3; have e4 := beq_no n4)
      go_enter Try.func27, Try.ntmps27
      go_wp2
      go_ret
      exact ⟨by rw [HD.out]; try first | rfl | exact ret_bool (decide_eq_false (by omega)).symm, rfl⟩
theorem second_t (a x : Int) {b : Bool} (h : decide (okAt a 1 x) = b) (w : World) : Calls Try.prog 27 #[.int .u8 a, .int .u8 x] w fun e w' => e = .returned (.bool b) ∧ w' = w := h ▸ second27 a x w
theorem size_t (a : Int) (n : Nat) (h : size a = n) (w : World) : Calls Try.prog 24 #[.int .u8 a] w fun e w' => e = .returned (.int .i64 n) ∧ w' = w := h ▸ size24 a w
end Go.Proofs.Ytaajgkccannjlaa
