import Derived.Test.YtppdggcefnlncaaF3
namespace Go.Proofs.Ytppdggcefnlncaa
open Go.RowKit Go.Mem Go.Front
variable {W w : World} {H : List HProp}
abbrev stepL (s : Step) : List Value := [.int .u8 s.e.kind, .int .u64 s.e.index, .int .i64 s.e.line, .int .i64 s.e.col, .bool s.e.wide, .int .i32 s.e.r, .bool s.e.blank, .bool s.e.last, .bool s.e.fresh, .bool s.e.wrap, .bool s.echo, .int .u8 s.kind]
theorem take_rev {l : List Step} {j : Nat} {x : Step} (h : l[j]? = some x) : (l.take (j + 1)).reverse = x :: (l.take j).reverse := by
  rw [List.take_add_one, h]; simp
attribute [local irreducible] World.setCell World.setCells World.alloc World.drew World.drewN Calls sat cel own blk old wpQuiet World.rangeAt
set_option maxHeartbeats 2000000 in
theorem last19 (l : List Step) (a : Option Addr) (n cap : Nat) (hl : SR 12 W H a n cap (l.map stepL)) (hs : sat W H w) : Calls Try.prog 19 #[.slice a n cap] w fun e w' => e = .returned (.int .u8 (lastR l.reverse)) ∧ sat W H w' := by
  have HL := Lib.hid hl
  have hn : n ≤ maxLen := Nat.le_trans hl.2.1 hl.2.2.1
  have HN := Lib.hid (show n = l.length by have := hl.1; rwa [List.length_map] at this)
  unfold maxLen at hn
  clear hl
  go_enter Try.func19, Try.ntmps19
  go_wp2_with (first | ((with_reducible refine isl ?_); first | ((with_reducible refine wrap hs ?_); clear hs; intro w hs) | ((with_reducible refine wrapn hs ?_); clear hs; intro w hs) | ((with_reducible refine wrapd hs ?_); clear hs; intro w hs)))
  go_loopw [3] (fun i wr => ∃ k : Nat, k ≤ n ∧ i = .int .i64 ((k : Int) - 1) ∧ Hid (lastR (l.take k).reverse = lastR l.reverse) ∧ sat W H wr) (fun i _ => (intOf i + 1).toNat)
  case atStart => exact ⟨n, Nat.le_refl _, rfl, Lib.hid (by rw [HN.out, List.take_length]), hs⟩
  case round =>
    clear hs
    obtain ⟨k, hk, rfl, HR, hs⟩ := hrel
    cases k with
    | zero =>
      go_wp2_with (first | ((with_reducible refine isl ?_); first | ((with_reducible refine wrap hs ?_); clear hs; intro w hs) | ((with_reducible refine wrapn hs ?_); clear hs; intro w hs) | ((with_reducible refine wrapd hs ?_); clear hs; intro w hs)))
      go_ret
      exact ⟨ret_int HR.out.symm, hs⟩
    | succ j =>
      obtain ⟨x, hx, b, off, rfl, hc⟩ := HL.out.getm hs (show j < n by omega)
      have HC := Lib.hid hc
      have HT := Lib.hid (take_rev hx)
      clear hc hx
      obtain ⟨⟨k, i0, i1, i2, wd, rr, bl, la, fr, wr'⟩, ec, kd⟩ := x
      have e1 : (((j + 1 : Nat) : Int) - 1) = (j : Int) := by omega
      simp only [e1]
      clear e1
      by_cases h5 : k = 5
      · subst h5
        have HF := Lib.hid (show lastR l.reverse = 0 by rw [← HR.out, HT.out]; simp [lastR])
        go_wp2_with (first | (apply ldc; exact rfl; exact rfl; exact rfl; (first | exact rangeAt_cell (j := 0) (HC.out _ hs) rfl | exact rangeAt_cell (j := 11) (HC.out _ hs) rfl); kernel_rfl) | ((with_reducible refine isl ?_); first | ((with_reducible refine wrap hs ?_); clear hs; intro w hs) | ((with_reducible refine wrapn hs ?_); clear hs; intro w hs) | ((with_reducible refine wrapd hs ?_); clear hs; intro w hs)))
        go_ret
        exact ⟨ret_int HF.out, hs⟩
      · have b5 : (k != 5) = true := by simpa using h5
        by_cases h1 : k = 1
        · subst h1
          have HF := Lib.hid (show lastR l.reverse = kd by rw [← HR.out, HT.out]; simp [lastR])
          clear h5
          go_wp2_with (first | (apply ldc; exact rfl; exact rfl; exact rfl; (first | exact rangeAt_cell (j := 0) (HC.out _ hs) rfl | exact rangeAt_cell (j := 11) (HC.out _ hs) rfl); kernel_rfl) | ((with_reducible refine isl ?_); first | ((with_reducible refine wrap hs ?_); clear hs; intro w hs) | ((with_reducible refine wrapn hs ?_); clear hs; intro w hs) | ((with_reducible refine wrapd hs ?_); clear hs; intro w hs)))
          go_ret
          exact ⟨ret_int HF.out, hs⟩
        · have b1 := beq_no h1
          have HF := Lib.hid (show lastR (l.take j).reverse = lastR l.reverse by rw [← HR.out, HT.out]; simp [lastR, h5, h1])
          clear h5 h1
          go_wp2_with (first | (apply ldc; exact rfl; exact rfl; exact rfl; (first | exact rangeAt_cell (j := 0) (HC.out _ hs) rfl | exact rangeAt_cell (j := 11) (HC.out _ hs) rfl); kernel_rfl) | ((with_reducible refine isl ?_); first | ((with_reducible refine wrap hs ?_); clear hs; intro w hs) | ((with_reducible refine wrapn hs ?_); clear hs; intro w hs) | ((with_reducible refine wrapd hs ?_); clear hs; intro w hs)))
          go_roundw
          case rel => exact ⟨j, by omega, rfl, HF, hs⟩
          case measure => simp [intOf]
end Go.Proofs.Ytppdggcefnlncaa
