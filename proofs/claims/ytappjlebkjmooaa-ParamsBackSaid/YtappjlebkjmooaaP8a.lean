import Derived.Test.YtappjlebkjmooaaP7
namespace Go.Proofs.Ytappjlebkjmooaa
open Go.RowKit Go.Mem
variable {W w : World} {H : List HProp}
attribute [local irreducible] World.setCell World.alloc World.drew World.drewN Calls sat cel own blk old plist

/-- The list behind k numbers. -/
def backL (xs : List Int) : Nat → PL
  | 0 => PL.new
  | k + 1 => tellK (if 0 < k then next (backL xs k) else backL xs k) (xs.getD k 0) 5
theorem take_set (xs : List Int) (k : Nat) (hk : k < 32) (hx : k < xs.length) :
    (xs.take k ++ List.replicate (32 - k) 0).set k (xs.getD k 0) = xs.take (k + 1) ++ List.replicate (32 - (k + 1)) 0 := by
  have h1 : (xs.take k).length = k := by simp; omega
  rw [List.set_append_right _ _ (by omega), h1, Nat.sub_self]
  have e : List.replicate (32 - k) (0 : Int) = 0 :: List.replicate (32 - (k + 1)) 0 := by
    rw [show 32 - k = (32 - (k + 1)) + 1 from by omega]; rfl
  rw [e, List.set_cons_zero, show xs.take (k + 1) = xs.take k ++ [xs[k]] from List.take_succ_eq_append_getElem hx, List.getD_eq_getElem?_getD, List.getElem?_eq_getElem hx, List.append_assoc]
  rfl
theorem zero_at (xs : List Int) (k : Nat) (hk : k < 32) (hx : k ≤ xs.length) : (xs.take k ++ List.replicate (32 - k) (0 : Int)).getD k 0 = 0 := by
  have h1 : (xs.take k).length = k := by simp; omega
  rw [List.getD_eq_getElem?_getD, List.getElem?_append_right (by omega), h1, Nat.sub_self, List.getElem?_replicate]
  split <;> rfl
theorem take_ok (xs : List Int) (hx : ∀ x ∈ xs, 0 ≤ x ∧ x ≤ 65535) (k : Nat) : ∀ x ∈ xs.take k ++ List.replicate (32 - k) (0 : Int), 0 ≤ x ∧ x ≤ 65535 := by
  intro x h
  rcases List.mem_append.1 h with h | h
  · exact hx x (List.mem_of_mem_take h)
  · rw [List.eq_of_mem_replicate h]; decide
theorem backL_eq (xs : List Int) (hx : ∀ x ∈ xs, 0 ≤ x ∧ x ≤ 65535) : ∀ k, k < xs.length → backL xs (k + 1) = ⟨xs.take (min (k + 1) 32) ++ List.replicate (32 - min (k + 1) 32) 0, min (k + 1) 32, decide (32 < k + 1)⟩
  | 0, hk => by
    have hb : 0 ≤ xs.getD 0 0 ∧ xs.getD 0 0 ≤ 65535 := by rw [List.getD_eq_getElem?_getD, List.getElem?_eq_getElem hk]; exact hx _ (List.getElem_mem _)
    show tellK PL.new (xs.getD 0 0) 5 = _
    rw [tell_value PL.new PL.new_ok rfl (by decide) _ hb.1 hb.2]
    have := take_set xs 0 (by omega) hk
    simp only [List.take_zero, List.nil_append] at this
    show (⟨(List.replicate 32 0).set 0 _, 1, false⟩ : PL) = ⟨xs.take 1 ++ List.replicate 31 0, 1, false⟩
    rw [← this]
  | k + 1, hk => by
    have ih := backL_eq xs hx k (by omega)
    have hb : 0 ≤ xs.getD (k + 1) 0 ∧ xs.getD (k + 1) 0 ≤ 65535 := by rw [List.getD_eq_getElem?_getD, List.getElem?_eq_getElem hk]; exact hx _ (List.getElem_mem _)
    show tellK (if 0 < k + 1 then next (backL xs (k + 1)) else backL xs (k + 1)) (xs.getD (k + 1) 0) 5 = _
    rw [if_pos (by omega), ih]
    by_cases h32 : k + 1 < 32
    · have e1 : min (k + 1) 32 = k + 1 := by omega
      have e2 : min (k + 1 + 1) 32 = k + 1 + 1 := by omega
      have e3 : decide (32 < k + 1) = false := by simp; omega
      have e4 : decide (32 < k + 1 + 1) = false := by simp; omega
      rw [e1, e2, e3, e4]
      have en : next ⟨xs.take (k + 1) ++ List.replicate (32 - (k + 1)) 0, k + 1, false⟩ = ⟨xs.take (k + 1) ++ List.replicate (32 - (k + 1)) 0, k + 1 + 1, false⟩ := by
        unfold next
        rw [if_neg (by show k + 1 ≠ 32; omega)]
        show (⟨_, max (k + 1) 1 + 1, false⟩ : PL) = _
        rw [show max (k + 1) 1 + 1 = k + 1 + 1 from by omega]
      rw [en, tell_value _ ⟨by simp; omega, by show k + 1 + 1 ≤ 32; omega, take_ok xs hx _⟩ rfl (by show List.getD _ (max (k + 1 + 1) 1 - 1) 0 = 0; rw [show max (k + 1 + 1) 1 - 1 = k + 1 from by omega]; exact zero_at xs (k + 1) h32 (by omega)) _ hb.1 hb.2]
      show (⟨List.set _ (max (k + 1 + 1) 1 - 1) _, max (k + 1 + 1) 1, false⟩ : PL) = _
      rw [show max (k + 1 + 1) 1 - 1 = k + 1 from by omega, take_set xs (k + 1) h32 hk, show max (k + 1 + 1) 1 = k + 1 + 1 from by omega]
    · have e1 : min (k + 1) 32 = 32 := by omega
      have e2 : min (k + 1 + 1) 32 = 32 := by omega
      have e4 : decide (32 < k + 1 + 1) = true := by simp; omega
      rw [e1, e2, e4]
      rw [show next ⟨xs.take 32 ++ List.replicate (32 - 32) 0, 32, decide (32 < k + 1)⟩ = ⟨xs.take 32 ++ List.replicate (32 - 32) 0, 32, true⟩ from rfl]
      exact tellK_full rfl _ 5

theorem back_values (xs : List Int) (hx : ∀ x ∈ xs, 0 ≤ x ∧ x ≤ 65535) : (backL xs xs.length).n = min xs.length 32 ∧ values (backL xs xs.length) = xs.take (min xs.length 32) ∧
    ∀ i, i < min xs.length 32 → at' (backL xs xs.length) i (-1) = if xs.getD i 0 = 0 then -1 else xs.getD i 0 := by
  cases hn : xs.length with
  | zero => exact ⟨rfl, rfl, fun i hi => by omega⟩
  | succ k =>
    rw [backL_eq xs hx k (by omega)]
    have hl : (xs.take (min (k + 1) 32)).length = min (k + 1) 32 := by rw [List.length_take]; omega
    refine ⟨rfl, ?_, fun i hi => ?_⟩
    · show List.take (min (k + 1) 32) (xs.take (min (k + 1) 32) ++ _) = _
      rw [List.take_append_of_le_length (by omega), List.take_take, Nat.min_self]
    · have e : (xs.take (min (k + 1) 32) ++ List.replicate (32 - min (k + 1) 32) (0 : Int)).getD i 0 = xs.getD i 0 := by
        rw [List.getD_eq_getElem?_getD, List.getElem?_append_left (by omega), List.getElem?_take_of_lt hi, List.getD_eq_getElem?_getD]
      unfold at'
      simp only [Int.toNat_natCast, e]
      by_cases hz : xs.getD i 0 = 0
      · rw [if_pos (.inr (.inr hz)), if_pos hz]
      · rw [if_neg (by simp only [not_or]; exact ⟨by omega, by omega, hz⟩), if_neg hz]

theorem back_guard (a : Option Addr) (len cap : Nat) (h : 60 < len) (hl : len ≤ maxLen) (hs : sat W H w) :
    Calls Try.prog 3 #[.slice a len cap] w fun e w' => e = .returned (.bool true) ∧ sat W H w' := by
  unfold maxLen at hl
  have e1 : decide ((60 : Int) < (len : Int)) = true := by simp; omega
  go_enter Try.func3, Try.ntmps3
  go_wp2_with (first
    | (go_at_call 7; refine (known_any hs).mono ?_; clear hs; rintro e w ⟨rfl, hs⟩)
    | (refine wrap hs ?_; clear hs; intro w hs)
    | (refine wrapn hs ?_; clear hs; intro w hs)
    | (refine wrapd hs ?_; clear hs; intro w hs))
  go_ret
  exact ⟨rfl, hs⟩

end Go.Proofs.Ytappjlebkjmooaa
