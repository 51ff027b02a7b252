/- Law 18: Same; great. -/
import Derived.Test.YtinfgebdcjaabaaQ16
namespace Go.Proofs.Ytinfgebdcjaabaa
open Go.RowKit Go.Mem Go.Queue
variable {W w : World} {H : List HProp}
def GreatPost (W : World) (H : List HProp) (n : Nat) (e : Ending) (w' : World) : Prop := ∃ v, e = .returned (.bool v) ∧ (v = false → n ≤ 100) ∧ sat W H w'
theorem one9 : oneTy Try.prog 9 = true := by kernel_rfl
attribute [local irreducible] World.setCell World.setCells World.alloc World.drew World.drewN Calls sat cel own blk old wpQuiet wpList qu uts gn World.rangeAt tru leastUpto bestUpto si Utf8.decode wc wst wordsOf may PutPost put accept mark
variable {b : Nat} {q : Qu}
set_option maxHeartbeats 1000000 in
theorem same14_n {a1 a2 : Option Addr} {c1 c2 n : Nat} {l : List Ut} (hn : l.length = n) (hl : n ≤ 1000) (hs : sat W (own 25 5 (.slice a1 n c1) n (uts l) :: own 25 5 (.slice a2 n c2) n (uts l) :: H) w) : Calls Try.prog 14 #[.slice a1 n c1, .slice a2 n c2] w fun e w' => e = .returned (.bool true) ∧ sat W (own 25 5 (.slice a1 n c1) n (uts l) :: own 25 5 (.slice a2 n c2) n (uts l) :: H) w' := by
  have HN := Lib.hid hn
  clear hn
  go_enter Try.func14, Try.ntmps14
  go_wp2_with fail
  go_loopw [5] (fun i wr => ∃ j : Nat, j ≤ n ∧ i = .int .i64 (j : Int) ∧ sat W (own 25 5 (.slice a1 n c1) n (uts l) :: own 25 5 (.slice a2 n c2) n (uts l) :: H) wr) (fun i _ => ((n : Int) - intOf i).toNat)
  case atStart => exact ⟨0, Nat.zero_le _, rfl, hs⟩
  case round =>
    clear hs
    obtain ⟨j, hj, rfl, hs⟩ := hrel
    by_cases hjn : j < n
    · obtain ⟨x, hx⟩ : ∃ x, l[j]? = some x := ⟨_, List.getElem?_eq_getElem (by rw [HN.out]; exact hjn)⟩
      have HX := Lib.hid hx
      clear hx
      obtain ⟨g1, c1', e1⟩ := hs.own_some (by omega)
      cases e1
      obtain ⟨g2, c2', e2⟩ := hs.b1.own_some (by omega)
      cases e2
      have hne := fun w => neq25 x x w
      rw [beqU_refl] at hne
      have hgd : Try.prog.eqGuardType Try.prog.depth 25 = false := by kernel_rfl
      go_upto_region 6 with fail
      ((try simp only [Act.put, List.setIfInBounds_toArray, List.set_cons_succ, List.set_cons_zero]); refine region_sat hs (by kernel_rfl) (by kernel_rfl) ?_; intro X f hne hf hcl; (repeat ((first | ((with_reducible apply ldscq (cs := utC x)); exact rfl; exact rfl; exact rfl; exact (fun y => uts_range ((hf y).b0) HX.out); exact row25) | ((with_reducible apply ldscq (cs := utC x)); exact rfl; exact rfl; exact rfl; exact (fun y => uts_range ((hf y).b1) HX.out); exact row25) | go_big_quiet_step (fail)); (try simp only [Act.put, List.setIfInBounds_toArray, List.set_cons_succ, List.set_cons_zero]))); refine wpQuiet_nil ?_; clear hcl hf hne hs f X; intro w hs)
      go_wp2_with fail
      go_roundw
      case rel => exact ⟨j + 1, by omega, by go_num, hs⟩
      case measure => simp [intOf]; omega
    · have hjn : j = n := by omega
      obtain rfl : n = j := hjn.symm
      go_wp2_with fail
      go_ret
      exact ⟨rfl, hs⟩
theorem same14 {a1 a2 : Option Addr} {c1 c2 : Nat} {l : List Ut} (hl : l.length ≤ 1000) (hs : sat W (utO a1 c1 l :: utO a2 c2 l :: H) w) : Calls Try.prog 14 #[.slice a1 l.length c1, .slice a2 l.length c2] w fun e w' => e = .returned (.bool true) ∧ sat W (utO a1 c1 l :: utO a2 c2 l :: H) w' := same14_n rfl hl hs
set_option maxHeartbeats 1000000 in
theorem great8 {a : Option Addr} {n c : Nat} {l : List Op} (hc : SR 8 W H a n c (l.map opC)) (hs : sat W H w) : Calls Try.prog 8 #[.slice a n c] w (GreatPost W H l.length) := by
  have hm := hc.len
  rw [List.length_map] at hm
  have HN := Lib.hid hm.1
  have hm2 : n ≤ maxLen := Nat.le_trans hm.2.1 hm.2.2
  unfold maxLen at hm2
  clear hm
  have HC := Lib.hid hc
  clear hc
  go_enter Try.func8, Try.ntmps8
  go_wp2_with fail
  go_loopw [3, 7] (fun v3 i wr => ∃ (k : Int) (j : Nat), j ≤ n ∧ v3 = .int .i64 k ∧ i = .int .i64 (j : Int) ∧ sat W H wr) (fun _ i _ => ((n : Int) - intOf i).toNat)
  case atStart => exact ⟨0, 0, Nat.zero_le _, rfl, rfl, hs⟩
  case round =>
    clear hs
    obtain ⟨k, j, hj, rfl, rfl, hs⟩ := hrel
    by_cases hjn : j < n
    · obtain ⟨o, ho, b, off, rfl, hcc⟩ := HC.out.getm hs hjn
      have HCT : Hid (∀ w', sat W H w' → w'.cell? ⟨b, off + j * 8 + 2 + 1, none⟩ = some (.string o.u.text)) := Lib.hid fun w' h => by
        have := rangeAt_cell (hcc w' h) (j := 3) (v := .string o.u.text) rfl
        rw [Nat.add_assoc (off + j * 8)]
        exact this
      clear hcc ho
      go_wp2_with (first | (apply ldc; exact rfl; exact rfl; exact rfl; exact HCT.out _ hs; exact one9))
      go_roundw
      case rel => exact ⟨_, j + 1, by omega, rfl, by go_num, hs⟩
      case measure => simp [intOf]; omega
    · have hjn : j = n := by omega
      obtain rfl : n = j := hjn.symm
      by_cases h100 : n ≤ 100
      · go_wp2_with fail
        go_ret
        exact ⟨decide ((100000 : Int) < k), by (first | rfl | (rw [show decide ((100 : Int) < (n : Int)) = false from decide_eq_false (by omega)]; rfl)), fun _ => by rw [← HN.out]; exact h100, hs⟩
      · have g1 : decide ((100 : Int) < (n : Int)) = true := decide_eq_true (by omega)
        go_wp2_with fail
        go_ret
        exact ⟨true, rfl, fun h => by simp at h, hs⟩
end Go.Proofs.Ytinfgebdcjaabaa
