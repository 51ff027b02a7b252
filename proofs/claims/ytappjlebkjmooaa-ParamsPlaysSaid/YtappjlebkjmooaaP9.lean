import Derived.Test.YtappjlebkjmooaaP7
namespace Go.Proofs.Ytappjlebkjmooaa
open Go.RowKit Go.Mem
variable {W w : World} {H : List HProp}
attribute [local irreducible] World.setCell World.alloc World.drew World.drewN Calls sat cel own blk old plist wpQuiet

theorem same_self (a b : Value) (xs : List Int) (w : World) (ha : Reads w a (xs.map (Value.int .i64))) (hb : Reads w b (xs.map (Value.int .i64))) :
    Calls Try.prog 19 #[a, b] w fun e w' => e = .returned (.bool true) ∧ ∃ n, w' = w.drewN n :=
  (same_any a b xs xs w ha hb).mono fun e w' ⟨he, hn⟩ => ⟨by rw [he, decide_eq_true rfl], hn⟩
theorem values_sl (b : Nat) (L : PL) (hs : sat W (plist b L :: H) w) :
    Calls Try.prog 11 #[.pointer (some ⟨b, 0, none⟩)] w fun e w' => ∃ a' c', e = .returned (.slice a' L.n c') ∧ sat W (own 3 1 (.slice a' L.n c') L.n ((values L).map (Value.int .i64)) :: plist b L :: H) w' :=
  (values_any b L hs).mono fun e w' ⟨v, he, hs⟩ => by
    obtain ⟨a', c', rfl⟩ := hs.own_slice
    exact ⟨a', c', he, hs⟩
theorem values_nils (hs : sat W H w) : Calls Try.prog 11 #[.pointer none] w fun e w' => ∃ a' c', e = .returned (.slice a' 0 c') ∧ sat W H w' :=
  (values_nil hs).mono fun e w' ⟨v, he, hs⟩ => by
    obtain ⟨a', c', rfl⟩ := hs.own_slice
    exact ⟨a', c', he, hs.drop⟩

theorem none_guard (a : Option Addr) (len cap : Nat) (m : Int) (h : 300 < len) (hl : len ≤ maxLen) (hs : sat W H w) :
    Calls Try.prog 6 #[.slice a len cap, .int .i64 m] w fun e w' => e = .returned (.bool true) ∧ sat W H w' := by
  unfold maxLen at hl
  have e1 : decide ((300 : Int) < (len : Int)) = true := by simp; omega
  go_enter Try.func6, Try.ntmps6
  go_wp2_with (first
    | (go_at_call 7; refine (known_any hs).mono ?_; clear hs; rintro e w ⟨rfl, hs⟩)
    | (go_at_call 11; refine (values_nils hs).mono ?_; clear hs; rintro e w ⟨a', c', rfl, hs⟩)
    | (go_at_call 13; refine (digit_nil _ _).mono ?_; rintro e w' ⟨rfl, rfl⟩)
    | (go_at_call 9; refine (next_nil _).mono ?_; rintro e w' ⟨rfl, rfl⟩)
    | (go_at_call 16; refine (clear_nil _).mono ?_; rintro e w' ⟨rfl, rfl⟩)
    | (go_at_call 17; refine (copy_nil _).mono ?_; rintro e w' ⟨rfl, rfl⟩)
    | (go_at_call 14; refine (len_nil _).mono ?_; rintro e w' ⟨rfl, n1, rfl⟩)
    | (go_at_call 12; refine (at_nil _ _ _).mono ?_; rintro e w' ⟨rfl, n1, rfl⟩)
    | (refine wrap hs ?_; clear hs; intro w hs)
    | (refine wrapn hs ?_; clear hs; intro w hs)
    | (refine wrapd hs ?_; clear hs; intro w hs))
  go_ret
  exact ⟨rfl, hs⟩

set_option maxHeartbeats 2000000 in
theorem none_walk (a : Option Addr) (xs : List Int) (cap : Nat) (m : Int) (h1 : xs.length ≤ 300) (w0 : World) (ha : ArgInts .i64 w0 a xs) (hs : sat W (old w0 :: H) w) :
    Calls Try.prog 6 #[.slice a xs.length cap, .int .i64 m] w fun e w' => e = .returned (.bool true) ∧ sat W (old w0 :: H) w' := by
  have hc := ha.cells
  clear ha
  generalize hn : xs.length = n at *
  clear hn
  have HC := Lib.hid hc
  clear hc
  have e1 : decide ((300 : Int) < (n : Int)) = false := by simp; omega
  go_enter Try.func6, Try.ntmps6
  go_wp2_with (first
    | (go_at_call 8; refine (new_any hs).mono ?_; clear hs; rintro e w ⟨b, rfl, hs⟩)
    | (go_at_call 11; refine (values_nils hs).mono ?_; clear hs; rintro e w ⟨a', c', rfl, hs⟩)
    | (go_at_call 13; refine (digit_nil _ _).mono ?_; rintro e w' ⟨rfl, rfl⟩)
    | (go_at_call 9; refine (next_nil _).mono ?_; rintro e w' ⟨rfl, rfl⟩)
    | (go_at_call 16; refine (clear_nil _).mono ?_; rintro e w' ⟨rfl, rfl⟩)
    | (go_at_call 17; refine (copy_nil _).mono ?_; rintro e w' ⟨rfl, rfl⟩)
    | (go_at_call 14; refine (len_nil _).mono ?_; rintro e w' ⟨rfl, n1, rfl⟩)
    | (go_at_call 12; refine (at_nil _ _ _).mono ?_; rintro e w' ⟨rfl, n1, rfl⟩)
    | (refine wrap hs ?_; clear hs; first | (generalize w'.heap.size = z; have := z; intro w hs; have hs := plist_zero (b := z) rfl hs) | (generalize w.heap.size = z; intro w hs); have hs := plist_zero rfl hs)
    | (refine wrap hs ?_; clear hs; intro w hs)
    | (refine wrapn hs ?_; clear hs; intro w hs)
    | (refine wrapd hs ?_; clear hs; intro w hs))
  go_loopw [9, 51] (fun _ i wr => ∃ (k : Nat) (L : PL), k ≤ n ∧ i = .int .i64 k ∧ sat W (plist z L :: plist b L :: old w0 :: H) wr) (fun _ i _ => n - (intOf i).toNat)
  case atStart => exact ⟨0, PL.new, Nat.zero_le _, rfl, hs.swap⟩
  case round =>
    clear hs
    obtain ⟨k, L, hk, rfl, hs⟩ := hrel
    by_cases hlt : k < n
    · obtain ⟨g, off, rfl, hc⟩ := HC.out (by omega)
      have hck := Lib.hid (hc k hlt)
      generalize xs.getD k 0 = y at *
      clear hc
      by_cases h10 : y = 10
      · subst h10
        go_wp2_with (first
    | (go_at_call 9; refine (next_any _ _ hs).mono ?_; clear hs; rintro e w ⟨rfl, hs⟩)
    | (go_at_call 9; refine (next_any _ _ hs.b1).mono ?_; clear hs; rintro e w ⟨rfl, hs⟩)
    | (apply ldold hs.b2; exact rfl; exact rfl; exact rfl; exact hck.out; kernel_rfl)
    | (refine wrap hs ?_; clear hs; intro w hs)
    | (refine wrapn hs ?_; clear hs; intro w hs)
    | (refine wrapd hs ?_; clear hs; intro w hs))
        go_roundw
        case rel => exact ⟨k + 1, _, by omega, by go_num, hs.swap⟩
        case measure => simp [intOf]; omega
      · go_wp2_with (first
    | (go_at_call 13; refine (digit_any _ _ _ hs).mono ?_; clear hs; rintro e w ⟨rfl, hs⟩)
    | (go_at_call 13; refine (digit_any _ _ _ hs.b1).mono ?_; clear hs; rintro e w ⟨rfl, hs⟩)
    | (apply ldold hs.b2; exact rfl; exact rfl; exact rfl; exact hck.out; kernel_rfl)
    | (refine wrap hs ?_; clear hs; intro w hs)
    | (refine wrapn hs ?_; clear hs; intro w hs)
    | (refine wrapd hs ?_; clear hs; intro w hs))
        go_roundw
        case rel => exact ⟨k + 1, _, by omega, by go_num, hs.swap⟩
        case measure => simp [intOf]; omega
    · have hn := (PIn.of hs).1.2.1
      go_wp2_with (first
    | (go_at_call 11; refine (values_sl _ _ hs).mono ?_; clear hs; rintro e w ⟨a1, c1, rfl, hs⟩)
    | (go_at_call 11; refine (values_sl _ _ hs.b2).mono ?_; clear hs; rintro e w ⟨a2, c2, rfl, hs⟩)
    | (go_at_call 19; refine (same_self _ _ _ _ (hs.b2.own_reads).1 hs.own_reads.1).mono ?_; rintro e w' ⟨rfl, n1, rfl⟩)
    | (go_at_call 14; refine (len_any _ _ _ (PIn.of hs.b1)).mono ?_; rintro e w' ⟨rfl, n1, rfl⟩)
    | (go_at_call 7; refine (known_any hs).mono ?_; clear hs; rintro e w ⟨rfl, hs⟩)
    | (refine wrap hs ?_; clear hs; intro w hs)
    | (refine wrapn hs ?_; clear hs; intro w hs)
    | (refine wrapd hs ?_; clear hs; intro w hs))
      go_ret
      exact ⟨rfl, hs.dropN 4⟩

theorem none_top (a : Option Addr) (len cap : Nat) (zs : List Int) (m : Int) (w : World) (ha : IsRow .i64 w a len cap zs) :
    Calls Try.prog 6 #[.slice a len cap, .int .i64 m] w fun e w' => e = .returned (.bool true) ∧ Below w.heap.size w w' := by
  obtain ⟨xs, rfl, hx⟩ := ha.args
  by_cases h : 300 < xs.length
  · exact (none_guard a _ cap m h hx.len (sat.start w)).mono fun e w' ⟨he, hs⟩ => ⟨he, hs.below⟩
  · exact (none_walk a xs cap m (by omega) w hx (sat.start w)).mono fun e w' ⟨he, hs⟩ => ⟨he, hs.below⟩
end Go.Proofs.Ytappjlebkjmooaa
