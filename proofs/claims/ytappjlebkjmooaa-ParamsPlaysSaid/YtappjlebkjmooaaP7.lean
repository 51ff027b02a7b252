import Derived.Test.YtappjlebkjmooaaP6
namespace Go.Proofs.Ytappjlebkjmooaa
open Go.RowKit Go.Mem
variable {W w : World} {H : List HProp}
attribute [local irreducible] World.setCell World.alloc World.drew World.drewN Calls sat cel own blk old plist

/-! ## A number, told by its digits -/
def pw : Nat → Int
  | 0 => 10000 | 1 => 1000 | 2 => 100 | 3 => 10 | 4 => 1 | _ => 0
def tellK (L : PL) (x : Int) : Nat → PL
  | 0 => L
  | k + 1 => if pw k ≤ x ∨ pw k = 1 then digit (tellK L x k) (x / pw k % 10) else tellK L x k
theorem tellK_ok {L : PL} (h : L.ok) (x : Int) : ∀ k, (tellK L x k).ok
  | 0 => h
  | k + 1 => by
    unfold tellK
    split
    · exact digit_ok (tellK_ok h x k) _
    · exact tellK_ok h x k
theorem tellK_full {L : PL} (hf : L.full = true) (x : Int) : ∀ k, tellK L x k = L
  | 0 => rfl
  | k + 1 => by
    unfold tellK
    rw [tellK_full hf x k]
    split
    · unfold digit; rw [if_pos (.inr (.inr hf))]
    · rfl
theorem digit_at (L : PL) (l : List Int) (n : Nat) (y d : Int) (hl : l.length = 32) (hn : 1 ≤ n ∧ n ≤ 32) (h1 : 0 ≤ d) (h2 : d ≤ 9) (h3 : y * 10 + d ≤ 65535) :
    digit ⟨l.set (n - 1) y, n, false⟩ d = ⟨l.set (n - 1) (y * 10 + d), n, false⟩ := by
  unfold digit
  rw [if_neg (by simp only [not_or]; exact ⟨by omega, by omega, by simp⟩)]
  have e : max n 1 = n := by omega
  simp only [e]
  have e2 : (l.set (n - 1) y).getD (n - 1) 0 = y := by
    rw [List.getD_eq_getElem?_getD, List.getElem?_set_self (by omega)]; rfl
  rw [e2, show min (y * 10 + d) 65535 = y * 10 + d from by omega, List.set_set]
theorem digit_first (L : PL) (hl : L.l.length = 32) (hn : L.n ≤ 32) (hf : L.full = false) (hz : L.l.getD (max L.n 1 - 1) 0 = 0) (d : Int) (h1 : 0 ≤ d) (h2 : d ≤ 9) :
    digit L d = ⟨L.l.set (max L.n 1 - 1) d, max L.n 1, false⟩ := by
  unfold digit
  rw [if_neg (by simp only [not_or]; exact ⟨by omega, by omega, by simp [hf]⟩), hz, hf]
  simp [show min d 65535 = d from by omega]
theorem tell_value (L : PL) (h : L.ok) (hf : L.full = false) (hz : L.l.getD (max L.n 1 - 1) 0 = 0) (x : Int) (h0 : 0 ≤ x) (h1 : x ≤ 65535) :
    tellK L x 5 = ⟨L.l.set (max L.n 1 - 1) x, max L.n 1, false⟩ := by
  obtain ⟨hl, hn, _⟩ := h
  have hn1 : 1 ≤ max L.n 1 ∧ max L.n 1 ≤ 32 := by omega
  -- either nothing was told yet, or what was told is x over the place
  have key : ∀ k, k ≤ 4 → (x < pw k * 10 ∧ tellK L x k = L) ∨ (pw k * 10 ≤ x ∧ tellK L x k = ⟨L.l.set (max L.n 1 - 1) (x / (pw k * 10)), max L.n 1, false⟩) := by
    intro k
    induction k with
    | zero => intro _; left; exact ⟨by simp [pw]; omega, rfl⟩
    | succ k ih =>
      intro hk
      have e : pw k = pw (k + 1) * 10 := by
        have : k = 0 ∨ k = 1 ∨ k = 2 ∨ k = 3 := by omega
        rcases this with rfl | rfl | rfl | rfl <;> rfl
      have hp : 1 < pw k ∧ pw k ≤ 10000 := by
        have : k = 0 ∨ k = 1 ∨ k = 2 ∨ k = 3 := by omega
        rcases this with rfl | rfl | rfl | rfl <;> decide
      rw [← e]
      rcases ih (by omega) with ⟨ha, hb⟩ | ⟨ha, hb⟩
      · by_cases hx : pw k ≤ x
        · right
          refine ⟨hx, ?_⟩
          unfold tellK
          rw [if_pos (.inl hx), hb, digit_first L hl hn hf hz _ (by omega) (by omega)]
          have : x / pw k < 10 := Int.ediv_lt_of_lt_mul (by omega) (by rw [Int.mul_comm]; exact ha)
          have h2 : 0 ≤ x / pw k := Int.ediv_nonneg h0 (by omega)
          rw [show x / pw k % 10 = x / pw k from by omega]
        · left
          refine ⟨by omega, ?_⟩
          unfold tellK
          rw [if_neg (by omega), hb]
      · right
        refine ⟨by omega, ?_⟩
        unfold tellK
        have h3 : x / (pw k * 10) = x / pw k / 10 := (Int.ediv_ediv_of_nonneg (by omega)).symm
        have h4 : x / (pw k * 10) * 10 + x / pw k % 10 = x / pw k := by rw [h3]; omega
        have h5 : x / pw k ≤ x := Int.ediv_le_self _ h0
        rw [if_pos (.inl (by omega)), hb, digit_at L _ _ _ _ hl hn1 (by omega) (by omega) (by omega), h4]
  rcases key 4 (by omega) with ⟨ha, hb⟩ | ⟨ha, hb⟩
  · show (if pw 4 ≤ x ∨ pw 4 = 1 then digit (tellK L x 4) (x / pw 4 % 10) else tellK L x 4) = _
    rw [if_pos (.inr rfl), hb]
    have e4 : pw 4 = 1 := rfl
    rw [e4] at ha ⊢
    rw [digit_first L hl hn hf hz _ (by omega) (by omega), Int.ediv_one, show x % 10 = x from by omega]
  · show (if pw 4 ≤ x ∨ pw 4 = 1 then digit (tellK L x 4) (x / pw 4 % 10) else tellK L x 4) = _
    rw [if_pos (.inr rfl), hb]
    have e4 : pw 4 = 1 := rfl
    rw [e4] at ha ⊢
    rw [digit_at L _ _ _ _ hl hn1 (by omega) (by omega) (by omega), Int.ediv_one, show x / (1 * 10) * 10 + x % 10 = x from by omega]

set_option maxHeartbeats 1000000 in
theorem tell_any (b : Nat) (L : PL) (x : Int) (h0 : 0 ≤ x) (h1 : x ≤ 65535) (hs : sat W (plist b L :: H) w) :
    Calls Try.prog 10 #[.pointer (some ⟨b, 0, none⟩), .int .i64 x] w fun e w' => e = .returned (.tuple #[]) ∧ sat W (plist b (tellK L x 5) :: H) w' := by
  go_enter Try.func10, Try.ntmps10
  go_wp2
  go_loopw [4] (fun p wr => ∃ (k : Nat) (q : Int), k ≤ 5 ∧ q = pw k ∧ p = .int .i64 q ∧ sat W (plist b (tellK L x k) :: H) wr) (fun p _ => (intOf p).toNat)
  case atStart => exact ⟨0, 10000, by decide, rfl, rfl, hs⟩
  case round =>
    clear hs
    obtain ⟨k, q, hk, hq, rfl, hs⟩ := hrel
    have hcase : k = 0 ∨ k = 1 ∨ k = 2 ∨ k = 3 ∨ k = 4 ∨ k = 5 := by omega
    rcases hcase with rfl | rfl | rfl | rfl | rfl | rfl
    · obtain rfl : q = 10000 := hq
      clear hk
      by_cases hx : 10000 ≤ x
      · have HH := Lib.hid (show tellK L x 1 = digit (tellK L x 0) (x / 10000 % 10) from by show (if pw 0 ≤ x ∨ pw 0 = 1 then digit (tellK L x 0) (x / pw 0 % 10) else tellK L x 0) = _; rw [if_pos (.inl hx)]; rfl)
        go_wp2_with (first
    | (go_at_call 13; refine (digit_any _ _ _ hs).mono ?_; clear hs; rintro e w ⟨rfl, hs⟩)
    | (refine wrap hs ?_; clear hs; intro w hs)
    | (refine wrapn hs ?_; clear hs; intro w hs)
    | (refine wrapd hs ?_; clear hs; intro w hs))
        go_roundw
        case rel => exact ⟨1, 1000, by omega, rfl, rfl, by rw [HH.out]; exact hs⟩
        case measure => simp [intOf]
      · have HH := Lib.hid (show tellK L x 1 = tellK L x 0 from by show (if pw 0 ≤ x ∨ pw 0 = 1 then digit (tellK L x 0) (x / pw 0 % 10) else tellK L x 0) = _; rw [if_neg (by simp only [not_or]; exact ⟨hx, by decide⟩)])
        go_wp2
        go_roundw
        case rel => exact ⟨1, 1000, by omega, rfl, rfl, by rw [HH.out]; exact hs⟩
        case measure => simp [intOf]
    · obtain rfl : q = 1000 := hq
      clear hk
      by_cases hx : 1000 ≤ x
      · have HH := Lib.hid (show tellK L x 2 = digit (tellK L x 1) (x / 1000 % 10) from by show (if pw 1 ≤ x ∨ pw 1 = 1 then digit (tellK L x 1) (x / pw 1 % 10) else tellK L x 1) = _; rw [if_pos (.inl hx)]; rfl)
        go_wp2_with (first
    | (go_at_call 13; refine (digit_any _ _ _ hs).mono ?_; clear hs; rintro e w ⟨rfl, hs⟩)
    | (refine wrap hs ?_; clear hs; intro w hs)
    | (refine wrapn hs ?_; clear hs; intro w hs)
    | (refine wrapd hs ?_; clear hs; intro w hs))
        go_roundw
        case rel => exact ⟨2, 100, by omega, rfl, rfl, by rw [HH.out]; exact hs⟩
        case measure => simp [intOf]
      · have HH := Lib.hid (show tellK L x 2 = tellK L x 1 from by show (if pw 1 ≤ x ∨ pw 1 = 1 then digit (tellK L x 1) (x / pw 1 % 10) else tellK L x 1) = _; rw [if_neg (by simp only [not_or]; exact ⟨hx, by decide⟩)])
        go_wp2
        go_roundw
        case rel => exact ⟨2, 100, by omega, rfl, rfl, by rw [HH.out]; exact hs⟩
        case measure => simp [intOf]
    · obtain rfl : q = 100 := hq
      clear hk
      by_cases hx : 100 ≤ x
      · have HH := Lib.hid (show tellK L x 3 = digit (tellK L x 2) (x / 100 % 10) from by show (if pw 2 ≤ x ∨ pw 2 = 1 then digit (tellK L x 2) (x / pw 2 % 10) else tellK L x 2) = _; rw [if_pos (.inl hx)]; rfl)
        go_wp2_with (first
    | (go_at_call 13; refine (digit_any _ _ _ hs).mono ?_; clear hs; rintro e w ⟨rfl, hs⟩)
    | (refine wrap hs ?_; clear hs; intro w hs)
    | (refine wrapn hs ?_; clear hs; intro w hs)
    | (refine wrapd hs ?_; clear hs; intro w hs))
        go_roundw
        case rel => exact ⟨3, 10, by omega, rfl, rfl, by rw [HH.out]; exact hs⟩
        case measure => simp [intOf]
      · have HH := Lib.hid (show tellK L x 3 = tellK L x 2 from by show (if pw 2 ≤ x ∨ pw 2 = 1 then digit (tellK L x 2) (x / pw 2 % 10) else tellK L x 2) = _; rw [if_neg (by simp only [not_or]; exact ⟨hx, by decide⟩)])
        go_wp2
        go_roundw
        case rel => exact ⟨3, 10, by omega, rfl, rfl, by rw [HH.out]; exact hs⟩
        case measure => simp [intOf]
    · obtain rfl : q = 10 := hq
      clear hk
      by_cases hx : 10 ≤ x
      · have HH := Lib.hid (show tellK L x 4 = digit (tellK L x 3) (x / 10 % 10) from by show (if pw 3 ≤ x ∨ pw 3 = 1 then digit (tellK L x 3) (x / pw 3 % 10) else tellK L x 3) = _; rw [if_pos (.inl hx)]; rfl)
        go_wp2_with (first
    | (go_at_call 13; refine (digit_any _ _ _ hs).mono ?_; clear hs; rintro e w ⟨rfl, hs⟩)
    | (refine wrap hs ?_; clear hs; intro w hs)
    | (refine wrapn hs ?_; clear hs; intro w hs)
    | (refine wrapd hs ?_; clear hs; intro w hs))
        go_roundw
        case rel => exact ⟨4, 1, by omega, rfl, rfl, by rw [HH.out]; exact hs⟩
        case measure => simp [intOf]
      · have HH := Lib.hid (show tellK L x 4 = tellK L x 3 from by show (if pw 3 ≤ x ∨ pw 3 = 1 then digit (tellK L x 3) (x / pw 3 % 10) else tellK L x 3) = _; rw [if_neg (by simp only [not_or]; exact ⟨hx, by decide⟩)])
        go_wp2
        go_roundw
        case rel => exact ⟨4, 1, by omega, rfl, rfl, by rw [HH.out]; exact hs⟩
        case measure => simp [intOf]
    · obtain rfl : q = 1 := hq
      clear hk
      have HS : ∀ w', sat W (plist b (digit (tellK L x 4) (x % 10)) :: H) w' → sat W (plist b (tellK L x 5) :: H) w' := fun w' h => by
        rw [show tellK L x 5 = digit (tellK L x 4) (x % 10) from by show (if pw 4 ≤ x ∨ pw 4 = 1 then digit (tellK L x 4) (x / pw 4 % 10) else tellK L x 4) = _; rw [if_pos (.inr rfl)]; show digit _ (x / 1 % 10) = _; rw [Int.ediv_one]]; exact h
      have HH := Lib.hid HS
      clear HS
      by_cases hx : 1 ≤ x
      all_goals
        go_wp2_with (first
    | (go_at_call 13; refine (digit_any _ _ _ hs).mono ?_; clear hs; rintro e w ⟨rfl, hs⟩)
    | (refine wrap hs ?_; clear hs; intro w hs)
    | (refine wrapn hs ?_; clear hs; intro w hs)
    | (refine wrapd hs ?_; clear hs; intro w hs))
        go_roundw
        case rel => exact ⟨5, 0, by omega, rfl, rfl, HH.out _ (by first | exact hs | simpa using hs)⟩
        case measure => simp [intOf]
    · obtain rfl : q = 0 := hq
      go_wp2
      refine end_end0 rfl rfl ?_
      exact ⟨rfl, hs⟩
end Go.Proofs.Ytappjlebkjmooaa
