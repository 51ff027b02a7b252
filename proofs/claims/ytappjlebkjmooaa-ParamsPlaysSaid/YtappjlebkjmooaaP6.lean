import Derived.Test.YtappjlebkjmooaaP5
import Derived.OpenShut
namespace Go.Proofs.Ytappjlebkjmooaa
open Go.RowKit Go.Mem
variable {W w : World} {H : List HProp}
attribute [local irreducible] World.setCell World.alloc World.drew World.drewN Calls sat cel own blk old plist

/-- A list of at most one number. -/
def one (v : Int) (n : Nat) : PL := ⟨v :: List.replicate 31 0, n, false⟩
theorem one_new : PL.new = one 0 0 := rfl
theorem one_digit (v d : Int) (n : Nat) (hn : n ≤ 1) (h1 : 0 ≤ d) (h2 : d ≤ 9) : digit (one v n) d = one (min (v * 10 + d) 65535) 1 := by
  have e : max n 1 = 1 := by omega
  unfold digit
  rw [if_neg (by simp only [not_or]; exact ⟨by omega, by omega, by simp [one]⟩)]
  show ({ l := _, n := max n 1, full := false } : PL) = _
  simp only [one, e]
  simp
theorem one_at (v : Int) : at' (one v 1) 0 0 = v := by
  unfold at'
  by_cases h : v = 0
  · subst h; simp [one]
  · rw [if_neg (by simp only [not_or]; exact ⟨by omega, by simp [one], by simpa [one] using h⟩)]; simp [one]

theorem digit_one (b : Nat) (v d v' : Int) (hv : v' = min (v * 10 + d) 65535) (n : Nat) (hn : n ≤ 1) (h1 : 0 ≤ d) (h2 : d ≤ 9) (hs : sat W (plist b (one v n) :: H) w) :
    Calls Try.prog 13 #[.pointer (some ⟨b, 0, none⟩), .int .i64 d] w fun e w' => e = .returned (.tuple #[]) ∧ sat W (plist b (one v' 1) :: H) w' := by
  subst hv; rw [← one_digit v d n hn h1 h2]; exact digit_any b _ d hs
theorem at_one (b : Nat) (v : Int) (w : World) (h : PIn w b (one v 1)) :
    Calls Try.prog 12 #[.pointer (some ⟨b, 0, none⟩), .int .i64 0, .int .i64 0] w fun e w' => e = .returned (.int .i64 v) ∧ ∃ n, w' = w.drewN n := by
  have := at_any b (one v 1) 0 0 w h
  rw [one_at] at this; exact this
theorem len_one (b : Nat) (v : Int) (w : World) (h : PIn w b (one v 1)) :
    Calls Try.prog 14 #[.pointer (some ⟨b, 0, none⟩)] w fun e w' => e = .returned (.int .i64 1) ∧ ∃ n, w' = w.drewN n := len_any b _ w h

set_option maxHeartbeats 1000000 in
theorem held_guard (a : Option Addr) (len cap : Nat) (m : Int) (h : (300 < len) ∨ m < 0 ∨ 100 < m) (hl : len ≤ maxLen) (hs : sat W H w) :
    Calls Try.prog 4 #[.slice a len cap, .int .i64 m] w fun e w' => e = .returned (.bool true) ∧ sat W H w' := by
  unfold maxLen at hl
  by_cases h1 : 300 < len
  · have e1 : decide ((300 : Int) < (len : Int)) = true := by simp; omega
    go_enter Try.func4, Try.ntmps4
    go_wp2_with (first
    | (go_at_call 7; refine (known_any hs).mono ?_; clear hs; rintro e w ⟨rfl, hs⟩)
    | (refine wrap hs ?_; clear hs; intro w hs)
    | (refine wrapn hs ?_; clear hs; intro w hs)
    | (refine wrapd hs ?_; clear hs; intro w hs))
    go_ret
    exact ⟨rfl, hs⟩
  · have e1 : decide ((300 : Int) < (len : Int)) = false := by simp; omega
    by_cases h2 : m < 0
    · have e2 : decide (m < 0) = true := by simpa using h2
      go_enter Try.func4, Try.ntmps4
      go_wp2_with (first
    | (go_at_call 7; refine (known_any hs).mono ?_; clear hs; rintro e w ⟨rfl, hs⟩)
    | (refine wrap hs ?_; clear hs; intro w hs)
    | (refine wrapn hs ?_; clear hs; intro w hs)
    | (refine wrapd hs ?_; clear hs; intro w hs))
      go_ret
      exact ⟨rfl, hs⟩
    · have e2 : decide (m < 0) = false := by simpa using h2
      have e3 : decide (100 < m) = true := by simp; omega
      go_enter Try.func4, Try.ntmps4
      go_wp2_with (first
    | (go_at_call 7; refine (known_any hs).mono ?_; clear hs; rintro e w ⟨rfl, hs⟩)
    | (refine wrap hs ?_; clear hs; intro w hs)
    | (refine wrapn hs ?_; clear hs; intro w hs)
    | (refine wrapd hs ?_; clear hs; intro w hs))
      go_ret
      exact ⟨rfl, hs⟩

set_option maxHeartbeats 1000000 in
theorem held_walk (a : Option Addr) (xs : List Int) (cap : Nat) (m : Nat) (h1 : xs.length ≤ 300) (hm : m ≤ 100) (w0 : World) (ha : ArgInts .u8 w0 a xs) (hs : sat W (old w0 :: H) w) :
    Calls Try.prog 4 #[.slice a xs.length cap, .int .i64 m] w fun e w' => e = .returned (.bool true) ∧ sat W (old w0 :: H) w' := by
  have hx := range_u8 ha.wf
  have hc := ha.cells
  clear ha
  generalize hn : xs.length = n at *
  clear hn
  have HC := Lib.hid hc
  have HX := Lib.hid hx
  clear hc hx
  have e1 : decide ((300 : Int) < (n : Int)) = false := by simp; omega
  have e2 : decide ((m : Int) < 0) = false := by simp
  have e3 : decide (100 < (m : Int)) = false := by simp; omega
  have tok : True := trivial
  go_enter Try.func4, Try.ntmps4
  go_wp2_with (first
    | (go_at_call 8; have _t := tok; clear _t tok; refine (new_any hs).mono ?_; clear hs; rintro e w ⟨b1, rfl, hs⟩)
    | (go_at_call 8; refine (new_any hs).mono ?_; clear hs; rintro e w ⟨b2, rfl, hs⟩)
    | (refine wrap hs ?_; clear hs; intro w hs)
    | (refine wrapn hs ?_; clear hs; intro w hs)
    | (refine wrapd hs ?_; clear hs; intro w hs))
  go_loopw [26] (fun i wr => ∃ k j : Nat, k ≤ m ∧ i = .int .i64 k ∧ j ≤ 1 ∧ sat W (plist b2 (one 0 j) :: plist b1 (one 0 0) :: old w0 :: H) wr) (fun i _ => m - (intOf i).toNat)
  case atStart => exact ⟨0, 0, Nat.zero_le _, rfl, by omega, hs⟩
  case round =>
    clear hs
    obtain ⟨k, j, hk, rfl, hj, hs⟩ := hrel
    by_cases hlt : k < m
    · go_wp2_with (first
    | (go_at_call 13; refine (digit_one _ 0 0 0 (by decide) _ (by assumption) (by decide) (by decide) hs).mono ?_; clear hs; rintro e w ⟨rfl, hs⟩)
    | (refine wrap hs ?_; clear hs; intro w hs)
    | (refine wrapn hs ?_; clear hs; intro w hs)
    | (refine wrapd hs ?_; clear hs; intro w hs))
      go_roundw
      case rel => exact ⟨k + 1, 1, by omega, by go_num, by omega, hs⟩
      case measure => simp [intOf]; omega
    · go_wp2_with (first
    | (refine wrap hs ?_; clear hs; intro w hs)
    | (refine wrapn hs ?_; clear hs; intro w hs)
    | (refine wrapd hs ?_; clear hs; intro w hs))
      go_loopw [7, 9, 10, 33] (fun last d q i wr => ∃ (k j1 j2 : Nat) (v : Int), k ≤ n ∧ i = .int .i64 k ∧ last = .int .i64 v ∧ 0 ≤ v ∧ v ≤ 65535 ∧ j1 ≤ 1 ∧ j2 ≤ 1 ∧ sat W (plist b1 (one v j1) :: plist b2 (one v j2) :: old w0 :: H) wr) (fun _ _ _ i _ => n - (intOf i).toNat)
      case atStart => exact ⟨0, 0, j, 0, Nat.zero_le _, rfl, rfl, by decide, by decide, by omega, hj, hs.swap⟩
      case round =>
        clear hs
        obtain ⟨k, j1, j2, v, hk, rfl, rfl, hv0, hv1, hj1, hj2, hs⟩ := hrel
        by_cases hlt : k < n
        · obtain ⟨g, off, rfl, hc⟩ := HC.out (by omega)
          have hck := Lib.hid (hc k hlt)
          have hxk := HX.out k
          rw [List.getD_eq_getElem?_getD] at hck
          generalize xs[k]?.getD 0 = y at *
          clear hc
          obtain ⟨v', hv'⟩ : ∃ v', v' = min (v * 10 + y % 10) 65535 := ⟨_, rfl⟩
          have hv2 : v ≤ v' := by omega
          have hv3 : v' ≤ 65535 := by omega
          have HV := Lib.hid hv'
          clear hv'
          have e4 : decide (v' < v) = false := by simp; omega
          have e5 : decide (65535 < v') = false := by simp; omega
          go_wp2_with (first
    | (go_at_call 13; refine (digit_one _ _ _ _ HV.out _ hj1 (by omega) (by omega) hs).mono ?_; clear hs; rintro e w ⟨rfl, hs⟩)
    | (go_at_call 13; refine (digit_one _ _ _ _ HV.out _ hj2 (by omega) (by omega) hs.b1).mono ?_; clear hs; rintro e w ⟨rfl, hs⟩)
    | (go_at_call 12; refine (at_one _ _ _ (PIn.of hs.b0)).mono ?_; rintro e w' ⟨rfl, n1, rfl⟩)
    | (go_at_call 12; refine (at_one _ _ _ (PIn.of hs.b1)).mono ?_; rintro e w' ⟨rfl, n1, rfl⟩)
    | (go_at_call 14; refine (len_one _ _ _ (PIn.of hs.b0)).mono ?_; rintro e w' ⟨rfl, n1, rfl⟩)
    | (go_at_call 14; refine (len_one _ _ _ (PIn.of hs.b1)).mono ?_; rintro e w' ⟨rfl, n1, rfl⟩)
    | (apply ldold hs.b2; exact rfl; exact rfl; exact rfl; exact hck.out; kernel_rfl)
    | (refine wrap hs ?_; clear hs; intro w hs)
    | (refine wrapn hs ?_; clear hs; intro w hs)
    | (refine wrapd hs ?_; clear hs; intro w hs))
          go_roundw
          case rel => exact ⟨k + 1, 1, 1, v', by omega, by go_num, rfl, by omega, hv3, by omega, by omega, hs.swap⟩
          case measure => simp [intOf]; omega
        · go_wp2_with (first
    | (go_at_call 7; refine (known_any hs).mono ?_; clear hs; rintro e w ⟨rfl, hs⟩)
    | (refine wrap hs ?_; clear hs; intro w hs)
    | (refine wrapn hs ?_; clear hs; intro w hs)
    | (refine wrapd hs ?_; clear hs; intro w hs))
          go_ret
          exact ⟨rfl, hs.dropN 2⟩

theorem held_any (a : Option Addr) (xs : List Int) (cap : Nat) (m : Int) (w0 : World) (ha : ArgInts .u8 w0 a xs) (hs : sat W (old w0 :: H) w) :
    Calls Try.prog 4 #[.slice a xs.length cap, .int .i64 m] w fun e w' => e = .returned (.bool true) ∧ sat W (old w0 :: H) w' := by
  by_cases h : 300 < xs.length ∨ m < 0 ∨ 100 < m
  · exact held_guard a _ cap m h ha.len hs
  · simp only [not_or] at h
    obtain ⟨k, rfl⟩ := Int.eq_ofNat_of_zero_le (show 0 ≤ m by omega)
    exact held_walk a xs cap k (by omega) (by omega) w0 ha hs

theorem held_top (a : Option Addr) (len cap : Nat) (zs : List Int) (m : Int) (w : World) (ha : IsRow .u8 w a len cap zs) :
    Calls Try.prog 4 #[.slice a len cap, .int .i64 m] w fun e w' => e = .returned (.bool true) ∧ Below w.heap.size w w' := by
  obtain ⟨xs, rfl, hx⟩ := ha.args
  exact (held_any a xs cap m w hx (sat.start w)).mono fun e w' ⟨he, hs⟩ => ⟨he, hs.below⟩
end Go.Proofs.Ytappjlebkjmooaa
