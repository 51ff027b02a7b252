/- Law 04: ParserCan, ParserNone: the walks. -/
import Derived.Test.YtojgdpccjlgmiaaK17
namespace Go.Proofs.Ytojgdpccjlgmiaa
open Go.RowKit Go.Mem Go.Parse
variable {W w : World} {H : List HProp}
attribute [local irreducible] World.setCell World.setCells World.alloc World.drew World.drewN Calls sat cel own blk old wpQuiet wpList pm values digit next acs
variable {b : Nat} {st pr : Int} {L : PL} {I T : List Int} {ov : Bool} {p : Ps} {H : List HProp}
attribute [local irreducible] told feed Parse.run fix leave
theorem state9_as {k : Int} (h : (p.st : Int) = k) (ok : p.ok) (hs : sat W (prs b p :: H) w) : Calls Try.prog 9 #[.pointer (some ⟨b, 0, none⟩)] w fun e w' => e = .returned (.int .u8 k) ∧ sat W (prs b p :: H) w' := by
  subst h
  exact state9 ok hs
theorem feed8_as {r : Int} {q : Ps} {X : List Ac} {k : Nat} (e : feed p r = (q, X)) (hk : X.length = k) (ok : p.ok) (hs : sat W (prs b p :: H) w) : Calls Try.prog 8 #[.pointer (some ⟨b, 0, none⟩), .int .i32 r] w fun e w' => ∃ a c, e = .returned (.slice a k c) ∧ sat W (acs (.slice a k c) X :: prs b q :: H) w' := by
  subst hk
  have h := feed8 (r := r) ok hs
  rw [e] at h
  exact h
theorem guard3 {a1 a2 : Option Addr} {n1 n2 c1 c2 : Nat} (h : 300 < n1 ∨ 300 < n2) (hs : sat W H w) : Calls Try.prog 3 #[.slice a1 n1 c1, .slice a2 n2 c2] w fun e w' => e = .returned (.bool true) ∧ sat W H w' := by
  by_cases h1 : 300 < n1
  · clear h
    have g : decide ((300 : Int) < (n1 : Int)) = true := decide_eq_true (by omega)
    go_enter Try.func3, Try.ntmps3
    go_wp2_with (first | (go_at_call 6; refine (known6 hs).mono ?_; clear hs; rintro e w ⟨rfl, hs⟩) | ((with_reducible refine isl ?_); first | ((with_reducible refine wrap hs ?_); clear hs; intro w hs) | ((with_reducible refine wrapn hs ?_); clear hs; intro w hs) | ((with_reducible refine wrapd hs ?_); clear hs; intro w hs)))
    go_ret
    exact ⟨rfl, hs⟩
  · have h2 : 300 < n2 := h.resolve_left h1
    clear h
    have g : decide ((300 : Int) < (n1 : Int)) = false := decide_eq_false (by omega)
    have g2 : decide ((300 : Int) < (n2 : Int)) = true := decide_eq_true (by omega)
    go_enter Try.func3, Try.ntmps3
    go_wp2_with (first | (go_at_call 6; refine (known6 hs).mono ?_; clear hs; rintro e w ⟨rfl, hs⟩) | ((with_reducible refine isl ?_); first | ((with_reducible refine wrap hs ?_); clear hs; intro w hs) | ((with_reducible refine wrapn hs ?_); clear hs; intro w hs) | ((with_reducible refine wrapd hs ?_); clear hs; intro w hs)))
    go_ret
    exact ⟨rfl, hs⟩
set_option maxHeartbeats 2000000 in
theorem can3 {a1 a2 : Option Addr} {n1 n2 c1 c2 : Nat} {l m : List Int} (hl : SR 1 W H a1 n1 c1 (l.map fun x => [.int .i32 x])) (hm : SR 1 W H a2 n2 c2 (m.map fun x => [.int .i32 x])) (h1 : n1 ≤ 300) (h2 : n2 ≤ 300) (hs : sat W H w) :
    Calls Try.prog 3 #[.slice a1 n1 c1, .slice a2 n2 c2] w fun e w' => e = .returned (.bool true) ∧ sat W H w' := by
  have HL := Lib.hid hl
  have HM := Lib.hid hm
  clear hl hm
  have g : decide ((300 : Int) < (n1 : Int)) = false := decide_eq_false (by omega)
  have g2 : decide ((300 : Int) < (n2 : Int)) = false := decide_eq_false (by omega)
  go_enter Try.func3, Try.ntmps3
  go_wp2_with (first | (go_at_call 7; refine (new7 hs).mono ?_; clear hs; (first | (have _t := z1; clear _t; rintro e w ⟨z2, rfl, hs⟩) | rintro e w ⟨z1, rfl, hs⟩)) | ((with_reducible refine isl ?_); first | ((with_reducible refine wrap hs ?_); clear hs; intro w hs) | ((with_reducible refine wrapn hs ?_); clear hs; intro w hs) | ((with_reducible refine wrapd hs ?_); clear hs; intro w hs)))
  replace hs := hs.b1
  go_loopw [24] (fun i wr => ∃ (j : Nat) (q : Ps), j ≤ n1 ∧ i = .int .i64 (j : Int) ∧ Hid (q.ok) ∧ sat W (prs z1 q :: prs z2 Ps.new :: H) wr) (fun i _ => ((n1 : Int) - intOf i).toNat)
  case atStart => exact ⟨0, _, Nat.zero_le _, rfl, Lib.hid Ps.new_ok, hs⟩
  case round =>
    clear hs
    obtain ⟨j, q, hj, rfl, HQ, hs⟩ := hrel
    by_cases hjn : j < n1
    · obtain ⟨x, hx, b1, o1, rfl, hc⟩ := HL.out.getb (hs.dropN 2) hjn
      have hc := hc _ (hs.dropN 2)
      obtain ⟨q', X, hX⟩ : ∃ q' X, feed q x = (q', X) := ⟨_, _, rfl⟩
      obtain ⟨k, hk⟩ : ∃ k, X.length = k := ⟨_, rfl⟩
      have HX := Lib.hid hX
      have HK := Lib.hid hk
      have HQ2 : Hid (q'.ok) := Lib.hid (by have := feed_ok HQ.out x; rw [hX] at this; exact this)
      clear hx hX hk
      go_wp2_with (first | (go_at_call 8; refine (feed8_as HX.out HK.out HQ.out hs).mono ?_; clear hs hc; rintro e w ⟨a5, c5, rfl, hs⟩; replace hs := hs.drop) | ((with_reducible refine isl ?_); first | ((with_reducible refine wrap hs ?_); clear hs; intro w hs) | ((with_reducible refine wrapn hs ?_); clear hs; intro w hs) | ((with_reducible refine wrapd hs ?_); clear hs; intro w hs)))
      go_roundw
      case rel => exact ⟨j + 1, q', by omega, by go_num, HQ2, hs⟩
      case measure => simp [intOf]; omega
    · have hjn2 : j = n1 := by omega
      obtain rfl : n1 = j := hjn2.symm
      obtain ⟨q', X, hX⟩ : ∃ q' X, feed q 24 = (q', X) := ⟨_, _, rfl⟩
      obtain ⟨k, hk⟩ : ∃ k, X.length = k := ⟨_, rfl⟩
      have HX := Lib.hid hX
      have HK := Lib.hid hk
      have hcan := can q
      have HQ2 : Hid (q'.ok) := Lib.hid (by have := feed_ok HQ.out 24; rw [hX] at this; exact this)
      rw [hX] at hcan
      have HC := Lib.hid hcan.2
      have HS : Hid ((q'.st : Int) = 0) := Lib.hid (by rw [hcan.1]; rfl)
      clear hX hk hcan
      go_wp2_with (first | (go_at_call 8; refine (feed8_as HX.out HK.out HQ.out hs).mono ?_; clear hs; rintro e w ⟨a5, c5, rfl, hs⟩; replace hs := hs.drop) | (go_at_call 9; refine (state9_as HS.out HQ2.out hs).mono ?_; clear hs; rintro e w ⟨rfl, hs⟩) | ((with_reducible refine isl ?_); first | ((with_reducible refine wrap hs ?_); clear hs; intro w hs) | ((with_reducible refine wrapn hs ?_); clear hs; intro w hs) | ((with_reducible refine wrapd hs ?_); clear hs; intro w hs)))
      go_loopw [39] (fun i wr => ∃ (j : Nat) (P Q : Ps), j ≤ n2 ∧ i = .int .i64 (j : Int) ∧ Hid (P.ok ∧ Q.ok ∧ Parse.Alike P Q) ∧ sat W (prs z1 P :: prs z2 Q :: H) wr) (fun i _ => ((n2 : Int) - intOf i).toNat)
      case atStart => exact ⟨0, _, _, Nat.zero_le _, rfl, Lib.hid ⟨HQ2.out, Ps.new_ok, HC.out⟩, hs⟩
      case round =>
        clear hs
        obtain ⟨i, P, Q, hi, rfl, HPQ, hs⟩ := hrel
        by_cases hin : i < n2
        · obtain ⟨x, hx, b1, o1, rfl, hc⟩ := HM.out.getb (hs.dropN 2) hin
          have hc := hc _ (hs.dropN 2)
          have hal := feed_alike HPQ.out.2.2 x
          obtain ⟨P', X, hX⟩ : ∃ q' X, feed P x = (q', X) := ⟨_, _, rfl⟩
          obtain ⟨Q', X2, hX2⟩ : ∃ q' X, feed Q x = (q', X) := ⟨_, _, rfl⟩
          have ok1 := feed_ok HPQ.out.1 x
          have ok2 := feed_ok HPQ.out.2.1 x
          have len := (feed_acts HPQ.out.1 x).2
          rw [hX] at ok1 len
          rw [hX2] at ok2
          rw [hX, hX2] at hal
          obtain ⟨hal, he⟩ := hal
          simp only at he hal ok1 ok2 len
          subst he
          obtain ⟨k, hk⟩ : ∃ k, X.length = k := ⟨_, rfl⟩
          rw [hk] at len
          have HP1 := Lib.hid ok1
          have HP2 := Lib.hid ok2
          have HA := Lib.hid hal
          have HX := Lib.hid hX
          have HX2 := Lib.hid hX2
          have HK := Lib.hid hk
          obtain ⟨s, hs1⟩ : ∃ s : Int, (P'.st : Int) = s := ⟨_, rfl⟩
          have HS1 := Lib.hid hs1
          have HS2 : Hid ((Q'.st : Int) = s) := Lib.hid (by rw [← hs1, hal.st])
          clear hx ok1 ok2 hal hX hX2 hk hs1
          go_wp2_with (first | (go_at_call 8; refine (feed8_as HX.out HK.out HPQ.out.1 hs).mono ?_; clear hs hc; rintro e w ⟨a5, c5, rfl, hs⟩; replace hs := hs.b2) | (go_at_call 8; refine (feed8_as HX2.out HK.out HPQ.out.2.1 hs).mono ?_; clear hs; rintro e w ⟨a6, c6, rfl, hs⟩) | (go_at_call 10; refine (same10 HK.out (by omega) hs.b2).mono ?_; clear hs; rintro e w ⟨rfl, hs⟩; replace hs := hs.drop.drop) | (go_at_call 9; refine (state9_as HS1.out HP1.out hs.b1).mono ?_; clear hs; rintro e w ⟨rfl, hs⟩) | (go_at_call 9; refine (state9_as HS2.out HP2.out hs.b1).mono ?_; clear hs; rintro e w ⟨rfl, hs⟩) | ((with_reducible refine isl ?_); first | ((with_reducible refine wrap hs ?_); clear hs; intro w hs) | ((with_reducible refine wrapn hs ?_); clear hs; intro w hs) | ((with_reducible refine wrapd hs ?_); clear hs; intro w hs)))
          go_roundw
          case rel => exact ⟨i + 1, P', Q', by omega, by go_num, Lib.hid ⟨HP1.out, HP2.out, HA.out⟩, by (refine sb_from ?_ hs; repeat constructor)⟩
          case measure => simp [intOf]; omega
        · have hin2 : i = n2 := by omega
          obtain rfl : n2 = i := hin2.symm
          replace hs := hs.drop.drop
          go_wp2_with (first | (go_at_call 6; refine (known6 hs).mono ?_; clear hs; rintro e w ⟨rfl, hs⟩) | ((with_reducible refine isl ?_); first | ((with_reducible refine wrap hs ?_); clear hs; intro w hs) | ((with_reducible refine wrapn hs ?_); clear hs; intro w hs) | ((with_reducible refine wrapd hs ?_); clear hs; intro w hs)))
          go_ret
          exact ⟨rfl, hs⟩
end Go.Proofs.Ytojgdpccjlgmiaa
