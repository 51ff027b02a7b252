import Derived.Test.YtdbhgjkdblhhkaaP8
namespace Go.Proofs.Ytdbhgjkdblhhkaa
open Go.RowKit Go.Mem
variable {W w : World} {H : List HProp}
attribute [local irreducible] World.setCell World.setCells World.alloc World.drew World.drewN Calls sat cel own blk old wpQuiet wpList
variable {b off : Nat}
theorem ready_zero (hs : sat W (cel b 36 (winL 0 off) :: H) w) : Calls Try.prog 28 #[.pointer (some ⟨b, 0, none⟩)] w fun e w' => e = .returned (.bool false) ∧ ∃ k, w' = w.drewN k := by
  go_enter Try.func28, Try.ntmps28
  go_wp2_with (first | ((with_reducible refine isl ?_); first | ((with_reducible apply ld hs.b0); exact rfl; exact rfl; exact rfl; exact rfl; kernel_rfl) | ((with_reducible apply st hs.b0); exact rfl; exact rfl; exact rfl; exact rfl; exact rfl; exact rfl; kernel_rfl; exact rfl; clear hs; intro w hs) | ((with_reducible apply stc hs.b0); exact rfl; exact rfl; exact rfl; exact rfl; exact rfl; kernel_rfl; exact rfl; clear hs; intro w hs) | ((with_reducible refine wrap hs ?_); clear hs; intro w hs) | ((with_reducible refine wrapn hs ?_); clear hs; intro w hs) | ((with_reducible refine wrapd hs ?_); clear hs; intro w hs)))
  go_ret
  exact ⟨rfl, 0, dr0 _⟩
theorem noWin_in {H2 : List HProp} (H' : List HProp) : NoWin W (H' ++ (cel b 36 (winL 0 off) :: H2)) (.pointer (some ⟨b, 0, none⟩)) := fun _ hs =>
  (ready_zero hs.front).mono fun _ _ ⟨h, k, e⟩ => ⟨h, e ▸ hs.drewN k⟩
theorem none_guard (a : Option Addr) (n c : Nat) (v : Value) (h : 500 < n) (hc : n ≤ maxLen) (hs : sat W H w) : Calls Try.prog 5 #[.slice a n c, v] w fun e w' => e = .returned (.bool true) ∧ sat W H w' := by
  unfold maxLen at hc
  go_enter Try.func5, Try.ntmps5
  go_wp2_with (go_at_call 8; refine (known8 hs).mono ?_; clear hs; rintro e w ⟨rfl, hs⟩)
  go_ret
  exact ⟨rfl, hs⟩
set_option maxHeartbeats 1000000 in
theorem none_walk (a : Option Addr) (n c : Nat) (i : Int) (hg : n ≤ 500) (hs : sat W H w) : Calls Try.prog 5 #[.slice a n c, .int .i64 i] w fun e w' => e = .returned (.bool true) ∧ sat W H w' := by
  go_enter Try.func5, Try.ntmps5
  go_wp2_with (first | ((with_reducible refine isl ?_); first | ((with_reducible refine wrap hs ?_); clear hs; (first | generalize w.heap.size = zz); intro w hs) | ((with_reducible refine wrap hs ?_); clear hs; intro w hs) | ((with_reducible refine wrapn hs ?_); clear hs; intro w hs) | ((with_reducible refine wrapd hs ?_); clear hs; intro w hs)))
  replace hs : sat W (cel zz 36 (winL 0 0) :: H) _ := hs
  go_loopw [7, 13] (fun _ i wr => ∃ j : Nat, j ≤ 2 ∧ i = .int .i64 j ∧ sat W (cel zz 36 (winL 0 0) :: H) wr) (fun _ i _ => (2 - intOf i).toNat)
  case atStart => exact ⟨0, by omega, rfl, hs⟩
  case round =>
    clear hs
    obtain ⟨j, hj, rfl, hs⟩ := hrel
    obtain rfl | rfl | rfl : j = 0 ∨ j = 1 ∨ j = 2 := by omega
    · skip
      go_wp2_with (first | (go_at_call 16; refine (no16 noWin_nil hs).mono ?_; clear hs; rintro e w ⟨rfl, hs⟩) | (go_at_call 17; refine (no17 noWin_nil hs).mono ?_; clear hs; rintro e w ⟨rfl, hs⟩) | (go_at_call 11; refine (no11 noWin_nil hs).mono ?_; clear hs; rintro e w ⟨rfl, hs⟩) | (go_at_call 15; refine (no15 noWin_nil hs).mono ?_; clear hs; rintro e w ⟨rfl, hs⟩) | (go_at_call 13; refine (no13 noWin_nil hs).mono ?_; clear hs; rintro e w ⟨rfl, hs⟩) | (go_at_call 12; refine (no12 (fun _ => noWin_nil) hs).mono ?_; clear hs; rintro e w ⟨rfl, hs⟩) | (go_at_call 14; refine (no14 noWin_nil hs).mono ?_; clear hs; rintro e w ⟨rfl, hs⟩) | (apply ixi; exact rfl; exact rfl; exact rfl; exact rfl; exact Try.underlying37; kernel_rfl; decide; decide; exact rfl) | ((with_reducible refine isl ?_); first | ((with_reducible refine wrap hs ?_); clear hs; intro w hs) | ((with_reducible refine wrapn hs ?_); clear hs; intro w hs) | ((with_reducible refine wrapd hs ?_); clear hs; intro w hs)))
      go_roundw
      case rel => exact ⟨1, by omega, by go_num, hs⟩
      case measure => simp [intOf]
    · skip
      go_wp2_with (first | (go_at_call 16; refine (no16 noWin_zero hs).mono ?_; clear hs; rintro e w ⟨rfl, hs⟩) | (go_at_call 17; refine (no17 noWin_zero hs).mono ?_; clear hs; rintro e w ⟨rfl, hs⟩) | (go_at_call 11; refine (no11 noWin_zero hs).mono ?_; clear hs; rintro e w ⟨rfl, hs⟩) | (go_at_call 15; refine (no15 noWin_zero hs).mono ?_; clear hs; rintro e w ⟨rfl, hs⟩) | (go_at_call 13; refine (no13 noWin_zero hs).mono ?_; clear hs; rintro e w ⟨rfl, hs⟩) | (go_at_call 12; refine (no12 (fun H' => noWin_in H') hs).mono ?_; clear hs; rintro e w ⟨rfl, hs⟩) | (go_at_call 14; refine (no14 noWin_zero hs).mono ?_; clear hs; rintro e w ⟨rfl, hs⟩) | (apply ixi; exact rfl; exact rfl; exact rfl; exact rfl; exact Try.underlying37; kernel_rfl; decide; decide; exact rfl) | ((with_reducible refine isl ?_); first | ((with_reducible refine wrap hs ?_); clear hs; intro w hs) | ((with_reducible refine wrapn hs ?_); clear hs; intro w hs) | ((with_reducible refine wrapd hs ?_); clear hs; intro w hs)))
      go_roundw
      case rel => exact ⟨2, by omega, by go_num, hs⟩
      case measure => simp [intOf]
    · skip
      go_wp2_with (first | (go_at_call 8; refine (known8 hs).mono ?_; clear hs; rintro e w ⟨rfl, hs⟩) | ((with_reducible refine isl ?_); first | ((with_reducible refine wrap hs ?_); clear hs; intro w hs) | ((with_reducible refine wrapn hs ?_); clear hs; intro w hs) | ((with_reducible refine wrapd hs ?_); clear hs; intro w hs)))
      go_ret
      exact ⟨rfl, hs.drop⟩
section
variable {E : Type} {enc : TypeId × Value → E}
theorem cells5 : Try.prog.cellsOf 5 = 1 := by kernel_rfl
/-- The argument's cells. -/
theorem rdc_arg {w : World} {a : Option Addr} {n c : Nat} (h : Rd enc Try.prog w 22 [.slice a n c]) : ∃ cells : List Int, RdC [old w] a n c cells ∧ (∀ x ∈ cells, 0 ≤ x ∧ x < 256) ∧ n = cells.length ∧ n ≤ maxLen := by
  obtain ⟨L, h1, h2, h3, h4, h5⟩ := rd_slice Try.underlying22 cells5 (by decide) h
  have h6 : ∀ cs ∈ L, ∃ x : {x : Int // 0 ≤ x ∧ x < 256}, cs = [Value.int .u8 x.1] := fun cs hc => by
    obtain ⟨x, e, hw⟩ := rd_int Try.underlying5 (h4 cs hc)
    simp [Lit.wf, IntKind.min, IntKind.max, IntKind.signed, IntKind.bits] at hw
    exact ⟨⟨x, by omega, by omega⟩, e⟩
  obtain ⟨l, hl⟩ := rd_map (f := fun x : {x : Int // 0 ≤ x ∧ x < 256} => [Value.int .u8 x.1]) h6
  have hl2 : L = (l.map (·.1)).map fun x => [Value.int .u8 x] := by rw [hl, List.map_map]; rfl
  rw [hl2] at h1 h5
  refine ⟨l.map (·.1), fun W0 w' _ => h5.sr h1 h2 h3 W0 [], fun x hx => ?_, by simpa using h1, by omega⟩
  obtain ⟨y, _, rfl⟩ := List.mem_map.1 hx
  exact y.2
theorem none_top (a0 : Option Addr) (n0 c0 : Nat) (a1 : Int) (w : World) (r0 : Rd enc Try.prog w 22 [.slice a0 n0 c0]) (_ : (Lit.int .i64 a1).wf = true) :
    Calls Try.prog 5 #[.slice a0 n0 c0, .int .i64 a1] w fun e w' => e = .returned (.bool true) ∧ Below w.heap.size w w' := by
  obtain ⟨_, _, _, _, hm⟩ := rdc_arg r0
  by_cases h : 500 < n0
  · exact (none_guard a0 n0 c0 _ h hm (sat.start w)).mono fun _ _ ⟨he, hs⟩ => ⟨he, hs.below⟩
  · exact (none_walk a0 n0 c0 a1 (by omega) (sat.start w)).mono fun _ _ ⟨he, hs⟩ => ⟨he, hs.below⟩
end
end Go.Proofs.Ytdbhgjkdblhhkaa
