import Derived.Test.YtninmdoeippcgaaM2
import Derived.Deep.Cut
import Derived.Deep.CutRange
import Derived.Deep.DeepCutAuto
namespace Go.Proofs.Ytninmdoeippcgaa
open Go.RowKit Go.Mem Go.Modes Go.Maps
variable {W w : World} {H : List HProp}
attribute [local irreducible] World.setCell World.setCells World.alloc World.drew World.drewN Calls sat cel own blk old mp wpQuiet tab
theorem beq_no {n k : Int} (h : n ≠ k) : (n == k) = false := by simpa using h
def plc (p : Bool) (n : Int) : Int := match place p n with | none => 0 | some i => ((2 ^ i : Nat) : Int)
theorem place18 (p : Bool) (n : Int) (w : World) : Calls Try.prog 18 #[.bool p, .int .i64 n] w fun e w' => e = .returned (.int .i64 (plc p n)) ∧ w' = w := by
  cases p
  · skip
    by_cases h0 : n = 4
    · subst h0
      go_enter Try.func18, Try.ntmps18
      go_wp2
      go_ret
      exact ⟨rfl, rfl⟩
    have b0 := beq_no h0
    by_cases h1 : n = 20
    · subst h1
      go_enter Try.func18, Try.ntmps18
      go_wp2
      go_ret
      exact ⟨rfl, rfl⟩
    have b1 := beq_no h1
    have HP := Lib.hid (show plc false n = 0 by unfold plc place; simp [h0, h1])
    clear h0 h1
    go_enter Try.func18, Try.ntmps18
    go_wp2
    go_ret
    exact ⟨ret_int HP.out, rfl⟩
  · skip
    by_cases h0 : n = 1
    · subst h0
      go_enter Try.func18, Try.ntmps18
      go_wp2
      go_ret
      exact ⟨rfl, rfl⟩
    have b0 := beq_no h0
    by_cases h1 : n = 6
    · subst h1
      go_enter Try.func18, Try.ntmps18
      go_wp2
      go_ret
      exact ⟨rfl, rfl⟩
    have b1 := beq_no h1
    by_cases h2 : n = 7
    · subst h2
      go_enter Try.func18, Try.ntmps18
      go_wp2
      go_ret
      exact ⟨rfl, rfl⟩
    have b2 := beq_no h2
    by_cases h3 : n = 25
    · subst h3
      go_enter Try.func18, Try.ntmps18
      go_wp2
      go_ret
      exact ⟨rfl, rfl⟩
    have b3 := beq_no h3
    by_cases h4 : n = 47
    · subst h4
      go_enter Try.func18, Try.ntmps18
      go_wp2
      go_ret
      exact ⟨rfl, rfl⟩
    have b4 := beq_no h4
    by_cases h5 : n = 1047
    · subst h5
      go_enter Try.func18, Try.ntmps18
      go_wp2
      go_ret
      exact ⟨rfl, rfl⟩
    have b5 := beq_no h5
    by_cases h6 : n = 1049
    · subst h6
      go_enter Try.func18, Try.ntmps18
      go_wp2
      go_ret
      exact ⟨rfl, rfl⟩
    have b6 := beq_no h6
    by_cases h7 : n = 2004
    · subst h7
      go_enter Try.func18, Try.ntmps18
      go_wp2
      go_ret
      exact ⟨rfl, rfl⟩
    have b7 := beq_no h7
    have HP := Lib.hid (show plc true n = 0 by unfold plc place; simp [h0, h1, h2, h3, h4, h5, h6, h7])
    clear h0 h1 h2 h3 h4 h5 h6 h7
    go_enter Try.func18, Try.ntmps18
    go_wp2
    go_ret
    exact ⟨ret_int HP.out, rfl⟩
def bsum (m : M) : Nat → Int
  | 0 => 0
  | k + 1 => bsum m k + if m.get k then ((2 ^ k : Nat) : Int) else 0
theorem bsum_all : ∀ m : M, bsum m 8 = Modes.bits m := allM (by decide +kernel)
theorem bsum_bd : ∀ m : M, ∀ k ≤ 8, 0 ≤ bsum m k ∧ bsum m k ≤ 255 := allM (by decide +kernel)
theorem mget (m : M) (k : Nat) (h : k < 8) : (mL m)[k]? = some (.bool (m.get k)) := by
  rcases (by omega : k = 0 ∨ k = 1 ∨ k = 2 ∨ k = 3 ∨ k = 4 ∨ k = 5 ∨ k = 6 ∨ k = 7) with rfl | rfl | rfl | rfl | rfl | rfl | rfl | rfl <;> rfl
set_option maxHeartbeats 2000000 in
theorem bits19 (m : M) (hs : sat W H w) : Calls Try.prog 19 #[mV m] w fun e w' => e = .returned (.int .u8 (Modes.bits m : Nat)) ∧ sat W H w' := by
  have HS := Lib.hid (bsum_all m)
  have HB := Lib.hid (bsum_bd m)
  have HR := Lib.hid (Modes.bits_lt m)
  go_enter Try.func19, Try.ntmps19
  obtain ⟨a0, a1, a2, a3, a4, a5, a6, a7⟩ := m
  obtain ⟨s, h0, h1, HK⟩ : ∃ s : Int, s = 0 ∧ s ≤ 255 ∧ Hid (s = bsum ⟨a0, a1, a2, a3, a4, a5, a6, a7⟩ 0) := ⟨0, rfl, by decide, Lib.hid rfl⟩
  clear HK h0 h1 s
  go_upto_if 5 with (first | (apply ld hs.b0; exact rfl; exact rfl; exact rfl; exact rfl; kernel_rfl) | (apply st hs.b0; exact rfl; exact rfl; exact rfl; exact rfl; exact rfl; exact rfl; kernel_rfl; exact rfl; clear hs; intro w hs) | (apply stc hs.b0; exact rfl; exact rfl; exact rfl; exact rfl; exact rfl; kernel_rfl; exact rfl; clear hs; intro w hs) | (refine wrap hs ?_; clear hs; (first | generalize w.heap.size = z1); intro w hs) | (refine wrap hs ?_; clear hs; intro w hs) | (refine wrapn hs ?_; clear hs; intro w hs) | (refine wrapd hs ?_; clear hs; intro w hs))
  simp only [Act.put, List.setIfInBounds_toArray, List.set_cons_succ, List.set_cons_zero]
  go_cut [3] from 4 to 37 (fun n wx => ∃ s : Int, n = .int .i64 s ∧ 0 ≤ s ∧ s ≤ 1 ∧ Hid (s = bsum ⟨a0, a1, a2, a3, a4, a5, a6, a7⟩ 1) ∧ sat W (cel z1 23 (mL ⟨a0, a1, a2, a3, a4, a5, a6, a7⟩) :: H) wx)
  case first =>
    cases a0
    · go_wp2_with (first | (apply ld hs.b0; exact rfl; exact rfl; exact rfl; exact rfl; kernel_rfl) | (apply st hs.b0; exact rfl; exact rfl; exact rfl; exact rfl; exact rfl; exact rfl; kernel_rfl; exact rfl; clear hs; intro w hs) | (apply stc hs.b0; exact rfl; exact rfl; exact rfl; exact rfl; exact rfl; kernel_rfl; exact rfl; clear hs; intro w hs) | (refine wrap hs ?_; clear hs; intro w hs) | (refine wrapn hs ?_; clear hs; intro w hs) | (refine wrapd hs ?_; clear hs; intro w hs))
      go_meet
      case rel => exact ⟨_, rfl, by decide, by decide, Lib.hid rfl, hs⟩
    · go_wp2_with (first | (apply ld hs.b0; exact rfl; exact rfl; exact rfl; exact rfl; kernel_rfl) | (apply st hs.b0; exact rfl; exact rfl; exact rfl; exact rfl; exact rfl; exact rfl; kernel_rfl; exact rfl; clear hs; intro w hs) | (apply stc hs.b0; exact rfl; exact rfl; exact rfl; exact rfl; exact rfl; kernel_rfl; exact rfl; clear hs; intro w hs) | (refine wrap hs ?_; clear hs; intro w hs) | (refine wrapn hs ?_; clear hs; intro w hs) | (refine wrapd hs ?_; clear hs; intro w hs))
      go_meet
      case rel => exact ⟨_, rfl, by decide, by decide, Lib.hid rfl, hs⟩
  case rest =>
  clear hs
  obtain ⟨s, rfl, h0, h1, HK, hs⟩ := hcut
  go_upto_if 9 with (first | (apply ld hs.b0; exact rfl; exact rfl; exact rfl; exact rfl; kernel_rfl) | (apply st hs.b0; exact rfl; exact rfl; exact rfl; exact rfl; exact rfl; exact rfl; kernel_rfl; exact rfl; clear hs; intro w hs) | (apply stc hs.b0; exact rfl; exact rfl; exact rfl; exact rfl; exact rfl; kernel_rfl; exact rfl; clear hs; intro w hs) | (refine wrap hs ?_; clear hs; intro w hs) | (refine wrapn hs ?_; clear hs; intro w hs) | (refine wrapd hs ?_; clear hs; intro w hs))
  simp only [Act.put, List.setIfInBounds_toArray, List.set_cons_succ, List.set_cons_zero]
  go_cut [3] from 4 to 37 (fun n wx => ∃ s : Int, n = .int .i64 s ∧ 0 ≤ s ∧ s ≤ 3 ∧ Hid (s = bsum ⟨a0, a1, a2, a3, a4, a5, a6, a7⟩ 2) ∧ sat W (cel z1 23 (mL ⟨a0, a1, a2, a3, a4, a5, a6, a7⟩) :: H) wx)
  case first =>
    cases a1
    · go_wp2_with (first | (apply ld hs.b0; exact rfl; exact rfl; exact rfl; exact rfl; kernel_rfl) | (apply st hs.b0; exact rfl; exact rfl; exact rfl; exact rfl; exact rfl; exact rfl; kernel_rfl; exact rfl; clear hs; intro w hs) | (apply stc hs.b0; exact rfl; exact rfl; exact rfl; exact rfl; exact rfl; kernel_rfl; exact rfl; clear hs; intro w hs) | (refine wrap hs ?_; clear hs; intro w hs) | (refine wrapn hs ?_; clear hs; intro w hs) | (refine wrapd hs ?_; clear hs; intro w hs))
      go_meet
      case rel => exact ⟨_, rfl, by omega, by omega, Lib.hid (by rw [HK.out]; exact (Int.add_zero _).symm), hs⟩
    · go_wp2_with (first | (apply ld hs.b0; exact rfl; exact rfl; exact rfl; exact rfl; kernel_rfl) | (apply st hs.b0; exact rfl; exact rfl; exact rfl; exact rfl; exact rfl; exact rfl; kernel_rfl; exact rfl; clear hs; intro w hs) | (apply stc hs.b0; exact rfl; exact rfl; exact rfl; exact rfl; exact rfl; kernel_rfl; exact rfl; clear hs; intro w hs) | (refine wrap hs ?_; clear hs; intro w hs) | (refine wrapn hs ?_; clear hs; intro w hs) | (refine wrapd hs ?_; clear hs; intro w hs))
      go_meet
      case rel => exact ⟨_, rfl, by omega, by omega, Lib.hid (by rw [HK.out]; rfl), hs⟩
  case rest =>
  clear hs
  clear HK h0 h1 s
  obtain ⟨s, rfl, h0, h1, HK, hs⟩ := hcut
  go_upto_if 13 with (first | (apply ld hs.b0; exact rfl; exact rfl; exact rfl; exact rfl; kernel_rfl) | (apply st hs.b0; exact rfl; exact rfl; exact rfl; exact rfl; exact rfl; exact rfl; kernel_rfl; exact rfl; clear hs; intro w hs) | (apply stc hs.b0; exact rfl; exact rfl; exact rfl; exact rfl; exact rfl; kernel_rfl; exact rfl; clear hs; intro w hs) | (refine wrap hs ?_; clear hs; intro w hs) | (refine wrapn hs ?_; clear hs; intro w hs) | (refine wrapd hs ?_; clear hs; intro w hs))
  simp only [Act.put, List.setIfInBounds_toArray, List.set_cons_succ, List.set_cons_zero]
  go_cut [3] from 4 to 37 (fun n wx => ∃ s : Int, n = .int .i64 s ∧ 0 ≤ s ∧ s ≤ 7 ∧ Hid (s = bsum ⟨a0, a1, a2, a3, a4, a5, a6, a7⟩ 3) ∧ sat W (cel z1 23 (mL ⟨a0, a1, a2, a3, a4, a5, a6, a7⟩) :: H) wx)
  case first =>
    cases a2
    · go_wp2_with (first | (apply ld hs.b0; exact rfl; exact rfl; exact rfl; exact rfl; kernel_rfl) | (apply st hs.b0; exact rfl; exact rfl; exact rfl; exact rfl; exact rfl; exact rfl; kernel_rfl; exact rfl; clear hs; intro w hs) | (apply stc hs.b0; exact rfl; exact rfl; exact rfl; exact rfl; exact rfl; kernel_rfl; exact rfl; clear hs; intro w hs) | (refine wrap hs ?_; clear hs; intro w hs) | (refine wrapn hs ?_; clear hs; intro w hs) | (refine wrapd hs ?_; clear hs; intro w hs))
      go_meet
      case rel => exact ⟨_, rfl, by omega, by omega, Lib.hid (by rw [HK.out]; exact (Int.add_zero _).symm), hs⟩
    · go_wp2_with (first | (apply ld hs.b0; exact rfl; exact rfl; exact rfl; exact rfl; kernel_rfl) | (apply st hs.b0; exact rfl; exact rfl; exact rfl; exact rfl; exact rfl; exact rfl; kernel_rfl; exact rfl; clear hs; intro w hs) | (apply stc hs.b0; exact rfl; exact rfl; exact rfl; exact rfl; exact rfl; kernel_rfl; exact rfl; clear hs; intro w hs) | (refine wrap hs ?_; clear hs; intro w hs) | (refine wrapn hs ?_; clear hs; intro w hs) | (refine wrapd hs ?_; clear hs; intro w hs))
      go_meet
      case rel => exact ⟨_, rfl, by omega, by omega, Lib.hid (by rw [HK.out]; rfl), hs⟩
  case rest =>
  clear hs
  clear HK h0 h1 s
  obtain ⟨s, rfl, h0, h1, HK, hs⟩ := hcut
  go_upto_if 17 with (first | (apply ld hs.b0; exact rfl; exact rfl; exact rfl; exact rfl; kernel_rfl) | (apply st hs.b0; exact rfl; exact rfl; exact rfl; exact rfl; exact rfl; exact rfl; kernel_rfl; exact rfl; clear hs; intro w hs) | (apply stc hs.b0; exact rfl; exact rfl; exact rfl; exact rfl; exact rfl; kernel_rfl; exact rfl; clear hs; intro w hs) | (refine wrap hs ?_; clear hs; intro w hs) | (refine wrapn hs ?_; clear hs; intro w hs) | (refine wrapd hs ?_; clear hs; intro w hs))
  simp only [Act.put, List.setIfInBounds_toArray, List.set_cons_succ, List.set_cons_zero]
  go_cut [3] from 4 to 37 (fun n wx => ∃ s : Int, n = .int .i64 s ∧ 0 ≤ s ∧ s ≤ 15 ∧ Hid (s = bsum ⟨a0, a1, a2, a3, a4, a5, a6, a7⟩ 4) ∧ sat W (cel z1 23 (mL ⟨a0, a1, a2, a3, a4, a5, a6, a7⟩) :: H) wx)
  case first =>
    cases a3
    · go_wp2_with (first | (apply ld hs.b0; exact rfl; exact rfl; exact rfl; exact rfl; kernel_rfl) | (apply st hs.b0; exact rfl; exact rfl; exact rfl; exact rfl; exact rfl; exact rfl; kernel_rfl; exact rfl; clear hs; intro w hs) | (apply stc hs.b0; exact rfl; exact rfl; exact rfl; exact rfl; exact rfl; kernel_rfl; exact rfl; clear hs; intro w hs) | (refine wrap hs ?_; clear hs; intro w hs) | (refine wrapn hs ?_; clear hs; intro w hs) | (refine wrapd hs ?_; clear hs; intro w hs))
      go_meet
      case rel => exact ⟨_, rfl, by omega, by omega, Lib.hid (by rw [HK.out]; exact (Int.add_zero _).symm), hs⟩
    · go_wp2_with (first | (apply ld hs.b0; exact rfl; exact rfl; exact rfl; exact rfl; kernel_rfl) | (apply st hs.b0; exact rfl; exact rfl; exact rfl; exact rfl; exact rfl; exact rfl; kernel_rfl; exact rfl; clear hs; intro w hs) | (apply stc hs.b0; exact rfl; exact rfl; exact rfl; exact rfl; exact rfl; kernel_rfl; exact rfl; clear hs; intro w hs) | (refine wrap hs ?_; clear hs; intro w hs) | (refine wrapn hs ?_; clear hs; intro w hs) | (refine wrapd hs ?_; clear hs; intro w hs))
      go_meet
      case rel => exact ⟨_, rfl, by omega, by omega, Lib.hid (by rw [HK.out]; rfl), hs⟩
  case rest =>
  clear hs
  clear HK h0 h1 s
  obtain ⟨s, rfl, h0, h1, HK, hs⟩ := hcut
  go_upto_if 21 with (first | (apply ld hs.b0; exact rfl; exact rfl; exact rfl; exact rfl; kernel_rfl) | (apply st hs.b0; exact rfl; exact rfl; exact rfl; exact rfl; exact rfl; exact rfl; kernel_rfl; exact rfl; clear hs; intro w hs) | (apply stc hs.b0; exact rfl; exact rfl; exact rfl; exact rfl; exact rfl; kernel_rfl; exact rfl; clear hs; intro w hs) | (refine wrap hs ?_; clear hs; intro w hs) | (refine wrapn hs ?_; clear hs; intro w hs) | (refine wrapd hs ?_; clear hs; intro w hs))
  simp only [Act.put, List.setIfInBounds_toArray, List.set_cons_succ, List.set_cons_zero]
  go_cut [3] from 4 to 37 (fun n wx => ∃ s : Int, n = .int .i64 s ∧ 0 ≤ s ∧ s ≤ 31 ∧ Hid (s = bsum ⟨a0, a1, a2, a3, a4, a5, a6, a7⟩ 5) ∧ sat W (cel z1 23 (mL ⟨a0, a1, a2, a3, a4, a5, a6, a7⟩) :: H) wx)
  case first =>
    cases a4
    · go_wp2_with (first | (apply ld hs.b0; exact rfl; exact rfl; exact rfl; exact rfl; kernel_rfl) | (apply st hs.b0; exact rfl; exact rfl; exact rfl; exact rfl; exact rfl; exact rfl; kernel_rfl; exact rfl; clear hs; intro w hs) | (apply stc hs.b0; exact rfl; exact rfl; exact rfl; exact rfl; exact rfl; kernel_rfl; exact rfl; clear hs; intro w hs) | (refine wrap hs ?_; clear hs; intro w hs) | (refine wrapn hs ?_; clear hs; intro w hs) | (refine wrapd hs ?_; clear hs; intro w hs))
      go_meet
      case rel => exact ⟨_, rfl, by omega, by omega, Lib.hid (by rw [HK.out]; exact (Int.add_zero _).symm), hs⟩
    · go_wp2_with (first | (apply ld hs.b0; exact rfl; exact rfl; exact rfl; exact rfl; kernel_rfl) | (apply st hs.b0; exact rfl; exact rfl; exact rfl; exact rfl; exact rfl; exact rfl; kernel_rfl; exact rfl; clear hs; intro w hs) | (apply stc hs.b0; exact rfl; exact rfl; exact rfl; exact rfl; exact rfl; kernel_rfl; exact rfl; clear hs; intro w hs) | (refine wrap hs ?_; clear hs; intro w hs) | (refine wrapn hs ?_; clear hs; intro w hs) | (refine wrapd hs ?_; clear hs; intro w hs))
      go_meet
      case rel => exact ⟨_, rfl, by omega, by omega, Lib.hid (by rw [HK.out]; rfl), hs⟩
  case rest =>
  clear hs
  clear HK h0 h1 s
  obtain ⟨s, rfl, h0, h1, HK, hs⟩ := hcut
  go_upto_if 25 with (first | (apply ld hs.b0; exact rfl; exact rfl; exact rfl; exact rfl; kernel_rfl) | (apply st hs.b0; exact rfl; exact rfl; exact rfl; exact rfl; exact rfl; exact rfl; kernel_rfl; exact rfl; clear hs; intro w hs) | (apply stc hs.b0; exact rfl; exact rfl; exact rfl; exact rfl; exact rfl; kernel_rfl; exact rfl; clear hs; intro w hs) | (refine wrap hs ?_; clear hs; intro w hs) | (refine wrapn hs ?_; clear hs; intro w hs) | (refine wrapd hs ?_; clear hs; intro w hs))
  simp only [Act.put, List.setIfInBounds_toArray, List.set_cons_succ, List.set_cons_zero]
  go_cut [3] from 4 to 37 (fun n wx => ∃ s : Int, n = .int .i64 s ∧ 0 ≤ s ∧ s ≤ 63 ∧ Hid (s = bsum ⟨a0, a1, a2, a3, a4, a5, a6, a7⟩ 6) ∧ sat W (cel z1 23 (mL ⟨a0, a1, a2, a3, a4, a5, a6, a7⟩) :: H) wx)
  case first =>
    cases a5
    · go_wp2_with (first | (apply ld hs.b0; exact rfl; exact rfl; exact rfl; exact rfl; kernel_rfl) | (apply st hs.b0; exact rfl; exact rfl; exact rfl; exact rfl; exact rfl; exact rfl; kernel_rfl; exact rfl; clear hs; intro w hs) | (apply stc hs.b0; exact rfl; exact rfl; exact rfl; exact rfl; exact rfl; kernel_rfl; exact rfl; clear hs; intro w hs) | (refine wrap hs ?_; clear hs; intro w hs) | (refine wrapn hs ?_; clear hs; intro w hs) | (refine wrapd hs ?_; clear hs; intro w hs))
      go_meet
      case rel => exact ⟨_, rfl, by omega, by omega, Lib.hid (by rw [HK.out]; exact (Int.add_zero _).symm), hs⟩
    · go_wp2_with (first | (apply ld hs.b0; exact rfl; exact rfl; exact rfl; exact rfl; kernel_rfl) | (apply st hs.b0; exact rfl; exact rfl; exact rfl; exact rfl; exact rfl; exact rfl; kernel_rfl; exact rfl; clear hs; intro w hs) | (apply stc hs.b0; exact rfl; exact rfl; exact rfl; exact rfl; exact rfl; kernel_rfl; exact rfl; clear hs; intro w hs) | (refine wrap hs ?_; clear hs; intro w hs) | (refine wrapn hs ?_; clear hs; intro w hs) | (refine wrapd hs ?_; clear hs; intro w hs))
      go_meet
      case rel => exact ⟨_, rfl, by omega, by omega, Lib.hid (by rw [HK.out]; rfl), hs⟩
  case rest =>
  clear hs
  clear HK h0 h1 s
  obtain ⟨s, rfl, h0, h1, HK, hs⟩ := hcut
  go_upto_if 29 with (first | (apply ld hs.b0; exact rfl; exact rfl; exact rfl; exact rfl; kernel_rfl) | (apply st hs.b0; exact rfl; exact rfl; exact rfl; exact rfl; exact rfl; exact rfl; kernel_rfl; exact rfl; clear hs; intro w hs) | (apply stc hs.b0; exact rfl; exact rfl; exact rfl; exact rfl; exact rfl; kernel_rfl; exact rfl; clear hs; intro w hs) | (refine wrap hs ?_; clear hs; intro w hs) | (refine wrapn hs ?_; clear hs; intro w hs) | (refine wrapd hs ?_; clear hs; intro w hs))
  simp only [Act.put, List.setIfInBounds_toArray, List.set_cons_succ, List.set_cons_zero]
  go_cut [3] from 4 to 37 (fun n wx => ∃ s : Int, n = .int .i64 s ∧ 0 ≤ s ∧ s ≤ 127 ∧ Hid (s = bsum ⟨a0, a1, a2, a3, a4, a5, a6, a7⟩ 7) ∧ sat W (cel z1 23 (mL ⟨a0, a1, a2, a3, a4, a5, a6, a7⟩) :: H) wx)
  case first =>
    cases a6
    · go_wp2_with (first | (apply ld hs.b0; exact rfl; exact rfl; exact rfl; exact rfl; kernel_rfl) | (apply st hs.b0; exact rfl; exact rfl; exact rfl; exact rfl; exact rfl; exact rfl; kernel_rfl; exact rfl; clear hs; intro w hs) | (apply stc hs.b0; exact rfl; exact rfl; exact rfl; exact rfl; exact rfl; kernel_rfl; exact rfl; clear hs; intro w hs) | (refine wrap hs ?_; clear hs; intro w hs) | (refine wrapn hs ?_; clear hs; intro w hs) | (refine wrapd hs ?_; clear hs; intro w hs))
      go_meet
      case rel => exact ⟨_, rfl, by omega, by omega, Lib.hid (by rw [HK.out]; exact (Int.add_zero _).symm), hs⟩
    · go_wp2_with (first | (apply ld hs.b0; exact rfl; exact rfl; exact rfl; exact rfl; kernel_rfl) | (apply st hs.b0; exact rfl; exact rfl; exact rfl; exact rfl; exact rfl; exact rfl; kernel_rfl; exact rfl; clear hs; intro w hs) | (apply stc hs.b0; exact rfl; exact rfl; exact rfl; exact rfl; exact rfl; kernel_rfl; exact rfl; clear hs; intro w hs) | (refine wrap hs ?_; clear hs; intro w hs) | (refine wrapn hs ?_; clear hs; intro w hs) | (refine wrapd hs ?_; clear hs; intro w hs))
      go_meet
      case rel => exact ⟨_, rfl, by omega, by omega, Lib.hid (by rw [HK.out]; rfl), hs⟩
  case rest =>
  clear hs
  clear HK h0 h1 s
  obtain ⟨s, rfl, h0, h1, HK, hs⟩ := hcut
  go_upto_if 33 with (first | (apply ld hs.b0; exact rfl; exact rfl; exact rfl; exact rfl; kernel_rfl) | (apply st hs.b0; exact rfl; exact rfl; exact rfl; exact rfl; exact rfl; exact rfl; kernel_rfl; exact rfl; clear hs; intro w hs) | (apply stc hs.b0; exact rfl; exact rfl; exact rfl; exact rfl; exact rfl; kernel_rfl; exact rfl; clear hs; intro w hs) | (refine wrap hs ?_; clear hs; intro w hs) | (refine wrapn hs ?_; clear hs; intro w hs) | (refine wrapd hs ?_; clear hs; intro w hs))
  simp only [Act.put, List.setIfInBounds_toArray, List.set_cons_succ, List.set_cons_zero]
  go_cut [3] from 4 to 37 (fun n wx => ∃ s : Int, n = .int .i64 s ∧ 0 ≤ s ∧ s ≤ 255 ∧ Hid (s = bsum ⟨a0, a1, a2, a3, a4, a5, a6, a7⟩ 8) ∧ sat W (cel z1 23 (mL ⟨a0, a1, a2, a3, a4, a5, a6, a7⟩) :: H) wx)
  case first =>
    cases a7
    · go_wp2_with (first | (apply ld hs.b0; exact rfl; exact rfl; exact rfl; exact rfl; kernel_rfl) | (apply st hs.b0; exact rfl; exact rfl; exact rfl; exact rfl; exact rfl; exact rfl; kernel_rfl; exact rfl; clear hs; intro w hs) | (apply stc hs.b0; exact rfl; exact rfl; exact rfl; exact rfl; exact rfl; kernel_rfl; exact rfl; clear hs; intro w hs) | (refine wrap hs ?_; clear hs; intro w hs) | (refine wrapn hs ?_; clear hs; intro w hs) | (refine wrapd hs ?_; clear hs; intro w hs))
      go_meet
      case rel => exact ⟨_, rfl, by omega, by omega, Lib.hid (by rw [HK.out]; exact (Int.add_zero _).symm), hs⟩
    · go_wp2_with (first | (apply ld hs.b0; exact rfl; exact rfl; exact rfl; exact rfl; kernel_rfl) | (apply st hs.b0; exact rfl; exact rfl; exact rfl; exact rfl; exact rfl; exact rfl; kernel_rfl; exact rfl; clear hs; intro w hs) | (apply stc hs.b0; exact rfl; exact rfl; exact rfl; exact rfl; exact rfl; kernel_rfl; exact rfl; clear hs; intro w hs) | (refine wrap hs ?_; clear hs; intro w hs) | (refine wrapn hs ?_; clear hs; intro w hs) | (refine wrapd hs ?_; clear hs; intro w hs))
      go_meet
      case rel => exact ⟨_, rfl, by omega, by omega, Lib.hid (by rw [HK.out]; rfl), hs⟩
  case rest =>
  clear hs
  clear HK h0 h1 s
  obtain ⟨s, rfl, h0, h1, HK, hs⟩ := hcut
  have HF := Lib.hid (HK.out.trans HS.out)
  go_wp2_with (first | (apply ld hs.b0; exact rfl; exact rfl; exact rfl; exact rfl; kernel_rfl) | (apply st hs.b0; exact rfl; exact rfl; exact rfl; exact rfl; exact rfl; exact rfl; kernel_rfl; exact rfl; clear hs; intro w hs) | (apply stc hs.b0; exact rfl; exact rfl; exact rfl; exact rfl; exact rfl; kernel_rfl; exact rfl; clear hs; intro w hs) | (refine wrap hs ?_; clear hs; intro w hs) | (refine wrapn hs ?_; clear hs; intro w hs) | (refine wrapd hs ?_; clear hs; intro w hs))
  go_ret
  exact ⟨by rw [← HF.out]; rfl, hs.drop⟩
end Go.Proofs.Ytninmdoeippcgaa
