/- Law 04: ParserNone, the walk. -/
import Derived.Test.YtojgdpccjlgmiaaK18
namespace Go.Proofs.Ytojgdpccjlgmiaa
open Go.RowKit Go.Mem Go.Parse
variable {W w : World} {H : List HProp}
attribute [local irreducible] World.setCell World.setCells World.alloc World.drew World.drewN Calls sat cel own blk old wpQuiet wpList pm values digit next acs
variable {b : Nat} {st pr : Int} {L : PL} {I T : List Int} {ov : Bool} {p : Ps} {H : List HProp}
attribute [local irreducible] told feed Parse.run fix leave
theorem guard5 {a1 : Option Addr} {n1 c1 : Nat} (h : 300 < n1) (hs : sat W H w) : Calls Try.prog 5 #[.slice a1 n1 c1] w fun e w' => e = .returned (.bool true) ∧ sat W H w' := by
  have g : decide ((300 : Int) < (n1 : Int)) = true := decide_eq_true (by omega)
  clear h
  go_enter Try.func5, Try.ntmps5
  go_wp2_with (first | (go_at_call 6; refine (known6 hs).mono ?_; clear hs; rintro e w ⟨rfl, hs⟩) | ((with_reducible refine isl ?_); first | ((with_reducible refine wrap hs ?_); clear hs; intro w hs) | ((with_reducible refine wrapn hs ?_); clear hs; intro w hs) | ((with_reducible refine wrapd hs ?_); clear hs; intro w hs)))
  go_ret
  exact ⟨rfl, hs⟩
set_option maxHeartbeats 2000000 in
theorem none5 {a1 : Option Addr} {n1 c1 : Nat} {l : List Int} (hl : SR 1 W H a1 n1 c1 (l.map fun x => [.int .i32 x])) (h1 : n1 ≤ 300) (hs : sat W H w) :
    Calls Try.prog 5 #[.slice a1 n1 c1] w fun e w' => e = .returned (.bool true) ∧ sat W H w' := by
  have HL := Lib.hid hl
  clear hl
  have g : decide ((300 : Int) < (n1 : Int)) = false := decide_eq_false (by omega)
  go_enter Try.func5, Try.ntmps5
  go_wp2_with (first | (go_at_call 7; refine (new7 hs).mono ?_; clear hs; rintro e w ⟨z2, rfl, hs⟩) | ((with_reducible refine isl ?_); first | ((with_reducible refine wrap hs ?_); clear hs; (first | generalize w.heap.size = z1); intro w hs) | ((with_reducible refine wrap hs ?_); clear hs; intro w hs) | ((with_reducible refine wrapn hs ?_); clear hs; intro w hs) | ((with_reducible refine wrapd hs ?_); clear hs; intro w hs)))
  replace hs : sat W (prs z1 Ps.new :: prs z2 Ps.new :: H) w := prs_zero (by unfold pm; rfl) hs.b1
  go_loopw [15] (fun i wr => ∃ (j : Nat) (q : Ps), j ≤ n1 ∧ i = .int .i64 (j : Int) ∧ Hid (q.ok) ∧ sat W (prs z1 q :: prs z2 q :: H) wr) (fun i _ => ((n1 : Int) - intOf i).toNat)
  case atStart => exact ⟨0, _, Nat.zero_le _, rfl, Lib.hid Ps.new_ok, hs⟩
  case round =>
    clear hs
    obtain ⟨j, q, hj, rfl, HQ, hs⟩ := hrel
    by_cases hjn : j < n1
    · obtain ⟨x, hx, b1, o1, rfl, hc⟩ := HL.out.getb (hs.dropN 2) hjn
      have hc := hc _ (hs.dropN 2)
      obtain ⟨q', X, hX⟩ : ∃ q' X, feed q x = (q', X) := ⟨_, _, rfl⟩
      obtain ⟨k, hk⟩ : ∃ k, X.length = k := ⟨_, rfl⟩
      have HX := Lib.hid hX
      have HK := Lib.hid hk
      have len : k ≤ 2 := by have := (feed_acts HQ.out x).2; rw [hX] at this; simp only at this; omega
      have HQ2 : Hid (q'.ok) := Lib.hid (by have := feed_ok HQ.out x; rw [hX] at this; exact this)
      clear hx hX hk
      go_wp2_with (first | (go_at_call 8; refine (feed_nil hs).mono ?_; clear hs hc; rintro e w ⟨rfl, hs⟩) | (go_at_call 8; refine (feed8_as HX.out HK.out HQ.out hs).mono ?_; clear hs; rintro e w ⟨a5, c5, rfl, hs⟩; replace hs := hs.b2) | (go_at_call 10; refine (same10 HK.out (by omega) hs).mono ?_; clear hs; rintro e w ⟨rfl, hs⟩; replace hs := hs.drop.drop) | ((with_reducible refine isl ?_); first | ((with_reducible refine wrap hs ?_); clear hs; intro w hs) | ((with_reducible refine wrapn hs ?_); clear hs; intro w hs) | ((with_reducible refine wrapd hs ?_); clear hs; intro w hs)))
      go_roundw
      case rel => exact ⟨j + 1, q', by omega, by go_num, HQ2, by (refine sb_from ?_ hs; repeat constructor)⟩
      case measure => simp [intOf]; omega
    · have hjn2 : j = n1 := by omega
      obtain rfl : n1 = j := hjn2.symm
      replace hs := hs.drop.drop
      go_wp2_with (first | (go_at_call 6; refine (known6 hs).mono ?_; clear hs; rintro e w ⟨rfl, hs⟩) | (go_at_call 9; refine (state_nil hs).mono ?_; clear hs; rintro e w ⟨rfl, hs⟩) | (go_at_call 12; refine (copy_nil hs).mono ?_; clear hs; rintro e w ⟨rfl, hs⟩) | ((with_reducible refine isl ?_); first | ((with_reducible refine wrap hs ?_); clear hs; intro w hs) | ((with_reducible refine wrapn hs ?_); clear hs; intro w hs) | ((with_reducible refine wrapd hs ?_); clear hs; intro w hs)))
      go_ret
      exact ⟨rfl, hs⟩
end Go.Proofs.Ytojgdpccjlgmiaa
