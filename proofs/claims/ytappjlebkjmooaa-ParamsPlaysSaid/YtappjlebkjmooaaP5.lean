import Derived.Test.YtappjlebkjmooaaP4
namespace Go.Proofs.Ytappjlebkjmooaa
open Go.RowKit Go.Mem
variable {W w : World} {H : List HProp}

theorem plist_zero {b : Nat} {l : List Value} (hl : l = List.replicate 32 (Value.int .i64 0) ++ [Value.int .i64 0, Value.bool false]) (hs : sat W (cel b 43 l :: H) w) : sat W (plist b PL.new :: H) w := by
  subst hl
  exact PL.mk_ok (L := PL.new) hs PL.new_ok
attribute [local irreducible] World.setCell World.alloc World.drew World.drewN Calls sat cel own blk old plist

set_option maxHeartbeats 1000000 in
theorem known_any (hs : sat W H w) : Calls Try.prog 7 #[] w fun e w' => e = .returned (.bool true) ∧ sat W H w' := by
  have k1 : decide (values (digit (next (digit (digit PL.new 3) 8)) 5) = [38, 5]) = true := by decide
  have k2 : at' (digit (next (digit (digit PL.new 3) 8)) 5) 1 7 = 5 := by decide
  have k3 : at' (digit (next (digit (digit PL.new 3) 8)) 5) 2 7 = 7 := by decide
  have k4 : decide (values (next PL.new) = [0, 0]) = true := by decide
  have k5 : at' (next PL.new) 0 1 = 1 := by decide
  go_enter Try.func7, Try.ntmps7
  go_wp2_with (first
    | (go_at_call 8; refine (new_any hs).mono ?_; clear hs; rintro e w ⟨b, rfl, hs⟩)
    | (go_at_call 13; refine (digit_any _ _ _ hs).mono ?_; clear hs; rintro e w ⟨rfl, hs⟩)
    | (go_at_call 9; refine (next_any _ _ hs).mono ?_; clear hs; rintro e w ⟨rfl, hs⟩)
    | (go_at_call 11; refine (values_any _ _ hs).mono ?_; clear hs; rintro e w ⟨v, rfl, hs⟩)
    | (go_at_call 11; refine (values_any _ _ hs.b1).mono ?_; clear hs; rintro e w ⟨v, rfl, hs⟩)
    | (go_at_call 11; refine (values_any _ _ hs.b2).mono ?_; clear hs; rintro e w ⟨v, rfl, hs⟩)
    | (go_at_call 11; refine (values_any _ _ hs.b3).mono ?_; clear hs; rintro e w ⟨v, rfl, hs⟩)
    | (go_at_call 19; refine (same_any _ _ _ [38, 5] _ (hs.b1.own_reads).1 (hs.b0.cel_reads (by decide))).mono ?_; rintro e w' ⟨rfl, n1, rfl⟩)
    | (go_at_call 19; refine (same_any _ _ _ [0, 0] _ (hs.b1.own_reads).1 (hs.b0.cel_reads (by decide))).mono ?_; rintro e w' ⟨rfl, n1, rfl⟩)
    | (go_at_call 12; refine (at_any _ _ _ _ _ (PIn.of hs.b0)).mono ?_; rintro e w' ⟨rfl, n1, rfl⟩)
    | (go_at_call 12; refine (at_any _ _ _ _ _ (PIn.of hs.b1)).mono ?_; rintro e w' ⟨rfl, n1, rfl⟩)
    | (go_at_call 12; refine (at_any _ _ _ _ _ (PIn.of hs.b2)).mono ?_; rintro e w' ⟨rfl, n1, rfl⟩)
    | (go_at_call 12; refine (at_any _ _ _ _ _ (PIn.of hs.b3)).mono ?_; rintro e w' ⟨rfl, n1, rfl⟩)
    | (go_at_call 12; refine (at_any _ _ _ _ _ (PIn.of hs.b4)).mono ?_; rintro e w' ⟨rfl, n1, rfl⟩)
    | (go_at_call 12; refine (at_any _ _ _ _ _ (PIn.of hs.b5)).mono ?_; rintro e w' ⟨rfl, n1, rfl⟩)
    | (refine wrap hs ?_; clear hs; intro w hs; have hs := plist_zero rfl hs)
    | (refine wrap hs ?_; clear hs; intro w hs)
    | (refine wrapn hs ?_; clear hs; intro w hs)
    | (refine wrapd hs ?_; clear hs; intro w hs))
  go_ret
  refine ⟨rfl, ?_⟩
  (first | exact hs.dropN 0 | exact hs.dropN 1 | exact hs.dropN 2 | exact hs.dropN 3 | exact hs.dropN 4 | exact hs.dropN 5 | exact hs.dropN 6 | exact hs.dropN 7 | exact hs.dropN 8 | exact hs.dropN 9 | exact hs.dropN 10 | exact hs.dropN 11 | exact hs.dropN 12 | exact hs.dropN 13 | exact hs.dropN 14 | exact hs.dropN 15)

end Go.Proofs.Ytappjlebkjmooaa
