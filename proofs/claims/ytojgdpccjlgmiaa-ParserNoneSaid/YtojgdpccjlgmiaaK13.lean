/- Law 04: Feed, State, New. -/
import Derived.Test.YtojgdpccjlgmiaaK12
namespace Go.Proofs.Ytojgdpccjlgmiaa
open Go.RowKit Go.Mem Go.Parse
variable {W w : World} {H : List HProp}
theorem feed1_no {p : Ps} {r : Int} (hl : lead r = none) (h : r = 127 ∨ (160 ≤ r ∧ p.st ≠ 0 ∧ p.st ≠ 12)) : feed1 p r = (p, []) := by
  unfold feed1; rw [hl]; simp only; rw [if_pos h]
theorem feed1_step {p : Ps} {r : Int} (hl : lead r = none) (h : ¬ (r = 127 ∨ (160 ≤ r ∧ p.st ≠ 0 ∧ p.st ≠ 12))) : feed1 p r = Parse.step p r := by
  unfold feed1; rw [hl]; simp only; rw [if_neg h]
theorem step_0 {p : Ps} {r : Int} (hk : p.st = 0) : Parse.step p r = (p, if r < 32 then exec r else prnt r) := by unfold Parse.step; simp [hk]
theorem step_1 {p : Ps} {r : Int} (hk : p.st = 1) : Parse.step p r = escape p r := by unfold Parse.step; simp [hk]
theorem step_2 {p : Ps} {r : Int} (hk : p.st = 2) : Parse.step p r = escape p r := by unfold Parse.step; simp [hk]
theorem step_3 {p : Ps} {r : Int} (hk : p.st = 3) : Parse.step p r = (if r < 32 then (p, exec r) else sequence p r 4 3 6 0) := by unfold Parse.step; simp [hk]
theorem step_4 {p : Ps} {r : Int} (hk : p.st = 4) : Parse.step p r = (if r < 32 then (p, exec r) else sequence p r 4 3 6 0) := by unfold Parse.step; simp [hk]
theorem step_5 {p : Ps} {r : Int} (hk : p.st = 5) : Parse.step p r = (if r < 32 then (p, exec r) else sequence p r 4 3 6 0) := by unfold Parse.step; simp [hk]
theorem step_6 {p : Ps} {r : Int} (hk : p.st = 6) : Parse.step p r = ignoring p r := by unfold Parse.step; simp [hk]
theorem step_7 {p : Ps} {r : Int} (hk : p.st = 7) : Parse.step p r = (if r < 32 then (p, []) else sequence p r 6 7 11 10) := by unfold Parse.step; simp [hk]
theorem step_8 {p : Ps} {r : Int} (hk : p.st = 8) : Parse.step p r = (if r < 32 then (p, []) else sequence p r 6 7 11 10) := by unfold Parse.step; simp [hk]
theorem step_9 {p : Ps} {r : Int} (hk : p.st = 9) : Parse.step p r = (if r < 32 then (p, []) else sequence p r 6 7 11 10) := by unfold Parse.step; simp [hk]
theorem step_10 {p : Ps} {r : Int} (hk : p.st = 10) : Parse.step p r = (p, []) := by unfold Parse.step; simp [hk]
theorem step_11 {p : Ps} {r : Int} (hk : p.st = 11) : Parse.step p r = (p, []) := by unfold Parse.step; simp [hk]
theorem step_12 {p : Ps} {r : Int} (hk : p.st = 12) : Parse.step p r = osc p r := by unfold Parse.step; simp [hk]
theorem step_13 {p : Ps} {r : Int} (hk : p.st = 13) : Parse.step p r = (p, []) := by unfold Parse.step; simp [hk]
attribute [local irreducible] World.setCell World.setCells World.alloc World.drew World.drewN Calls sat cel own blk old wpQuiet wpList pm values digit next acs
variable {b : Nat} {st pr : Int} {L : PL} {I T : List Int} {ov : Bool} {p : Ps} {H : List HProp}
attribute [local irreducible] Any
theorem feed8 {r : Int} (ok : p.ok) (hs : sat W (prs b p :: H) w) : Calls Try.prog 8 #[.pointer (some ⟨b, 0, none⟩), .int .i32 r] w (Acts W H b (feed p r)) := by
  unfold feed
  have l3 : lead 65533 = none := rfl
  by_cases hn : r < 0
  · have e : fix r = 65533 := by unfold fix; rw [if_pos (.inl hn)]
    rw [e]
    by_cases k0 : p.st = 0
    · rw [feed1_step (p := p) l3 (by omega), step_0 k0]; exact feed_0_neg hn l3 k0 ok hs
    by_cases k12 : p.st = 12
    · rw [feed1_step (p := p) l3 (by omega), step_12 k12]; exact feed_12_neg hn l3 k12 ok hs
    rw [feed1_no (p := p) l3 (by omega)]; exact feed_else_neg hn l3 k0 k12 ok hs
  by_cases hb : 1114111 < r
  · have e : fix r = 65533 := by unfold fix; rw [if_pos (.inr hb)]
    rw [e]
    by_cases k0 : p.st = 0
    · rw [feed1_step (p := p) l3 (by omega), step_0 k0]; exact feed_0_big hb l3 k0 ok hs
    by_cases k12 : p.st = 12
    · rw [feed1_step (p := p) l3 (by omega), step_12 k12]; exact feed_12_big hb l3 k12 ok hs
    rw [feed1_no (p := p) l3 (by omega)]; exact feed_else_big hb l3 k0 k12 ok hs
  have e : fix r = r := by unfold fix; rw [if_neg (by omega)]
  rw [e]
  have h0 : 0 ≤ r := by omega
  have h1 : r < 1114112 := by omega
  cases hl : lead r with
  | some s => exact feed_some h0 h1 hl ok hs
  | none =>
    by_cases h127 : r = 127
    · subst h127
      rw [feed1_no hl (.inl rfl)]; exact feed_127 ok hs
    have b127 : (r == 127) = false := by simp; omega
    by_cases h160 : 160 ≤ r
    · by_cases k0 : p.st = 0
      · rw [feed1_step (p := p) hl (by omega), step_0 k0]; exact feed_0_in_hi h0 h1 hl b127 k0 h160 ok hs
      by_cases k12 : p.st = 12
      · rw [feed1_step (p := p) hl (by omega), step_12 k12]; exact feed_12_in_hi h0 h1 hl b127 k12 h160 ok hs
      rw [feed1_no (p := p) hl (by omega)]; exact feed_else_in h0 h1 hl b127 k0 k12 h160 ok hs
    have h2 : r < 160 := by omega
    rw [feed1_step (p := p) hl (by omega)]
    have hst := ok.st
    by_cases k0 : p.st = 0
    · rw [step_0 k0]; exact feed_0_in h0 h1 hl b127 k0 h2 ok hs
    by_cases k1 : p.st = 1
    · rw [step_1 k1]; exact feed_1_in h0 h1 hl b127 k1 h2 ok hs
    by_cases k2 : p.st = 2
    · rw [step_2 k2]; exact feed_2_in h0 h1 hl b127 k2 h2 ok hs
    by_cases k3 : p.st = 3
    · rw [step_3 k3]; exact feed_3_in h0 h1 hl b127 k3 h2 ok hs
    by_cases k4 : p.st = 4
    · rw [step_4 k4]; exact feed_4_in h0 h1 hl b127 k4 h2 ok hs
    by_cases k5 : p.st = 5
    · rw [step_5 k5]; exact feed_5_in h0 h1 hl b127 k5 h2 ok hs
    by_cases k6 : p.st = 6
    · rw [step_6 k6]; exact feed_6_in h0 h1 hl b127 k6 h2 ok hs
    by_cases k7 : p.st = 7
    · rw [step_7 k7]; exact feed_7_in h0 h1 hl b127 k7 h2 ok hs
    by_cases k8 : p.st = 8
    · rw [step_8 k8]; exact feed_8_in h0 h1 hl b127 k8 h2 ok hs
    by_cases k9 : p.st = 9
    · rw [step_9 k9]; exact feed_9_in h0 h1 hl b127 k9 h2 ok hs
    by_cases k10 : p.st = 10
    · rw [step_10 k10]; exact feed_10_in h0 h1 hl b127 k10 h2 ok hs
    by_cases k11 : p.st = 11
    · rw [step_11 k11]; exact feed_11_in h0 h1 hl b127 k11 h2 ok hs
    by_cases k12 : p.st = 12
    · rw [step_12 k12]; exact feed_12_in h0 h1 hl b127 k12 h2 ok hs
    by_cases k13 : p.st = 13
    · rw [step_13 k13]; exact feed_13_in h0 h1 hl b127 k13 h2 ok hs
    omega
theorem state9 (ok : p.ok) (hs : sat W (prs b p :: H) w) : Calls Try.prog 9 #[.pointer (some ⟨b, 0, none⟩)] w fun e w' => e = .returned (.int .u8 (p.st : Int)) ∧ sat W (prs b p :: H) w' := by
  obtain ⟨nI, hI⟩ : ∃ n, p.inter.length = n := ⟨_, rfl⟩
  obtain ⟨nT, hT⟩ : ∃ n, p.text.length = n := ⟨_, rfl⟩
  have HL := Lib.hid ok.par.1
  have HI := Lib.hid hI
  have HT := Lib.hid hT
  have HOK := Lib.hid ok
  have hi2 : nI ≤ 2 := by rw [← hI]; exact ok.inter
  have ht2 : nT ≤ 1024 := by rw [← hT]; exact ok.text
  obtain ⟨aI, cI, aT, cT, hs⟩ := sat.prs_open hI hT hs
  clear hI hT
  clear ok
  go_enter Try.func9, Try.ntmps9
  go_wp2_with (first | ((with_reducible refine isl ?_); first | ((with_reducible apply ld hs.b0); exact rfl; exact rfl; exact rfl; exact pm_c0; exact one5) | ((with_reducible apply ld hs.b0); exact rfl; exact rfl; exact rfl; exact pm_c1; exact one21) | ((with_reducible apply ld hs.b0); exact rfl; exact rfl; exact rfl; exact pm_c36 HL.out; exact one22) | ((with_reducible apply ld hs.b0); exact rfl; exact rfl; exact rfl; exact pm_c37 HL.out; exact one4) | ((with_reducible apply ld hs.b0); exact rfl; exact rfl; exact rfl; exact pm_c38 HL.out; exact one22) | ((with_reducible apply st hs.b0); exact rfl; exact rfl; exact rfl; exact rfl; exact rfl; exact pm_s0; exact one5; exact rfl; clear hs; intro w hs; rw [pm_set0] at hs) | ((with_reducible apply st hs.b0); exact rfl; exact rfl; exact rfl; exact rfl; exact rfl; exact pm_s1; exact one21; exact rfl; clear hs; intro w hs; rw [pm_set1] at hs) | ((with_reducible apply st hs.b0); exact rfl; exact rfl; exact rfl; exact rfl; exact rfl; exact pm_s36 HL.out; exact one22; exact rfl; clear hs; intro w hs; rw [pm_set36 HL.out] at hs) | ((with_reducible apply st hs.b0); exact rfl; exact rfl; exact rfl; exact rfl; exact rfl; exact pm_s37 HL.out; exact one4; exact rfl; clear hs; intro w hs; rw [pm_set37 HL.out] at hs) | ((with_reducible apply st hs.b0); exact rfl; exact rfl; exact rfl; exact rfl; exact rfl; exact pm_s38 HL.out; exact one22; exact rfl; clear hs; intro w hs; rw [pm_set38 HL.out] at hs) | ((with_reducible apply stc hs.b0); exact rfl; exact rfl; exact rfl; exact rfl; exact pm_s0; exact one5; exact rfl; clear hs; intro w hs; rw [pm_set0] at hs) | ((with_reducible apply stc hs.b0); exact rfl; exact rfl; exact rfl; exact rfl; exact pm_s1; exact one21; exact rfl; clear hs; intro w hs; rw [pm_set1] at hs) | ((with_reducible apply stc hs.b0); exact rfl; exact rfl; exact rfl; exact rfl; exact pm_s36 HL.out; exact one22; exact rfl; clear hs; intro w hs; rw [pm_set36 HL.out] at hs) | ((with_reducible apply stc hs.b0); exact rfl; exact rfl; exact rfl; exact rfl; exact pm_s37 HL.out; exact one4; exact rfl; clear hs; intro w hs; rw [pm_set37 HL.out] at hs) | ((with_reducible apply stc hs.b0); exact rfl; exact rfl; exact rfl; exact rfl; exact pm_s38 HL.out; exact one22; exact rfl; clear hs; intro w hs; rw [pm_set38 HL.out] at hs) | ((with_reducible refine wrap hs ?_); clear hs; intro w hs) | ((with_reducible refine wrapn hs ?_); clear hs; intro w hs) | ((with_reducible refine wrapd hs ?_); clear hs; intro w hs)))
  go_ret
  exact ⟨rfl, sat.prs_close (p := p) HI.out HT.out hs⟩
theorem state_nil (hs : sat W H w) : Calls Try.prog 9 #[.pointer none] w fun e w' => e = .returned (.int .u8 0) ∧ sat W H w' := by
  go_enter Try.func9, Try.ntmps9
  go_wp2_with (first | ((with_reducible refine isl ?_); first | ((with_reducible refine wrap hs ?_); clear hs; intro w hs) | ((with_reducible refine wrapn hs ?_); clear hs; intro w hs) | ((with_reducible refine wrapd hs ?_); clear hs; intro w hs)))
  go_ret
  exact ⟨rfl, hs⟩
theorem copy_nil (hs : sat W H w) : Calls Try.prog 12 #[.pointer none] w fun e w' => e = .returned (.pointer none) ∧ sat W H w' := by
  go_enter Try.func12, Try.ntmps12
  go_wp2_with (first | ((with_reducible refine isl ?_); first | ((with_reducible refine wrap hs ?_); clear hs; intro w hs) | ((with_reducible refine wrapn hs ?_); clear hs; intro w hs) | ((with_reducible refine wrapd hs ?_); clear hs; intro w hs)))
  go_ret
  exact ⟨rfl, hs⟩
theorem prs_zero {z : Nat} {l : List Value} (e : l = pm (.int .u8 0) (.int .i32 0) PL.new [.slice none 0 0, .bool false, .slice none 0 0]) (hs : sat W (cel z 40 l :: H) w) : sat W (prs z Ps.new :: H) w := by
  subst e
  exact sat.prs_close (p := Ps.new) (aI := none) (cI := 0) (aT := none) (cT := 0) rfl rfl ((hs.own_nil 21 1).own_nil 21 1).b2
theorem new7 (hs : sat W H w) : Calls Try.prog 7 #[] w fun e w' => ∃ z, e = .returned (.pointer (some ⟨z, 0, none⟩)) ∧ sat W (prs z Ps.new :: H) w' := by
  go_enter Try.func7, Try.ntmps7
  go_wp2_with (first | ((with_reducible refine isl ?_); first | ((with_reducible refine wrap hs ?_); clear hs; intro w hs) | ((with_reducible refine wrapn hs ?_); clear hs; intro w hs) | ((with_reducible refine wrapd hs ?_); clear hs; intro w hs)))
  go_ret
  exact ⟨_, rfl, prs_zero (by unfold pm; rfl) hs.made⟩
end Go.Proofs.Ytojgdpccjlgmiaa
