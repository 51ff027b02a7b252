import Derived.Test.YtjchjdlapacknaaA1
import Derived.Test.YtjchjdlapacknaaSr
namespace Go.Proofs.Ytjchjdlapacknaa
open Go.RowKit Go.Mem
variable {W w : World} {H : List HProp}
attribute [local irreducible] World.setCell World.setCells World.alloc World.drew World.drewN Calls sat cel own blk old mp wpQuiet


def gfxL : List Int := [32, 9670, 9618, 9225, 9228, 9229, 9226, 176, 177, 9252, 9227, 9496, 9488, 9484, 9492, 9532, 9146, 9147, 9472, 9148, 9149, 9500, 9508, 9524, 9516, 9474, 8804, 8805, 960, 8800, 163, 183]
def gfx (r : Int) : Int := gfxL.getD (r - 95).toNat 0
def charset (s r : Int) : Int := if s = 1 ∧ r = 35 then 163 else if s = 2 ∧ 95 ≤ r ∧ r ≤ 126 then gfx r else r
theorem graphics37 (hs : sat W H w) : Calls Try.prog 37 #[] w fun e w' => e = .returned (.agg (gfxL.map (Value.int .i32)).toArray) ∧ sat W H w' := by
  go_enter Try.func37, Try.ntmps37
  go_wp2_with (first
    | (apply sts hs.b0; exact rfl; exact rfl; exact rfl; exact rfl; kernel_rfl; decide; kernel_rfl; exact rfl; clear hs; intro w hs)
    | (refine wrap hs ?_; clear hs; intro w hs)
    | (refine wrapn hs ?_; clear hs; intro w hs)
    | (refine wrapd hs ?_; clear hs; intro w hs))
  refine ret_cell hs rfl rfl rfl (by kernel_rfl) ?_
  exact ⟨rfl, hs.drop⟩
theorem gfx_at (k : Nat) (hk : k < 31) : ((gfxL.drop 1).map (Value.int .i32))[k]? = some (.int .i32 (gfx (k + 96))) := by
  have : ∀ k : Fin 31, (gfxL.drop 1)[k.val]? = some (gfx ((k.val : Int) + 96)) := by decide
  rw [List.getElem?_map, this ⟨k, hk⟩]; rfl
theorem gfx_all (k : Nat) (hk : k < 32) : (gfxL.map (Value.int .i32)).toArray[k]? = some (.int .i32 (gfx (k + 95))) := by
  have : ∀ k : Fin 32, gfxL[k.val]? = some (gfx ((k.val : Int) + 95)) := by decide
  rw [List.getElem?_toArray, List.getElem?_map, this ⟨k, hk⟩]; rfl
theorem graphic38 (r : Int) (h : 96 ≤ r ∧ r ≤ 126) (hs : sat W H w) : Calls Try.prog 38 #[.int .i32 r] w fun e w' => e = .returned (.int .i32 (gfx r)) ∧ sat W H w' := by
  obtain ⟨k, hk⟩ := Int.eq_ofNat_of_zero_le (show 0 ≤ r - 96 by omega)
  obtain rfl : r = k + 96 := by omega
  have hk31 : k < 31 := by omega
  have HV := Lib.hid (gfx_at k hk31)
  generalize gfx (k + 96) = v at *
  clear hk h
  have hsub : IntKind.i32.wrap ((k : Int) + 96 - 96) = k := by rw [Int.add_sub_cancel]; exact Go.IntWalk.i32_in _ (by omega)
  go_enter Try.func38, Try.ntmps38
  go_wp2_with (first
    | (apply ld hs.b0; exact rfl; exact rfl; exact rfl; exact rfl; kernel_rfl)
    | (apply ld hs.b0; exact rfl; exact rfl; exact rfl; exact HV.out; kernel_rfl)
    | (apply st hs.b0; exact rfl; exact rfl; exact rfl; exact rfl; exact rfl; exact rfl; kernel_rfl; exact rfl; clear hs; intro w hs)
    | (apply stc hs.b0; exact rfl; exact rfl; exact rfl; exact rfl; exact rfl; kernel_rfl; exact rfl; clear hs; intro w hs)
    | (refine wrap hs ?_; clear hs; intro w hs)
    | (refine wrapn hs ?_; clear hs; intro w hs)
    | (refine wrapd hs ?_; clear hs; intro w hs))
  go_ret
  exact ⟨rfl, hs.drop⟩
set_option maxHeartbeats 4000000 in
theorem charset18 (s r : Int) (hs : sat W H w) : Calls Try.prog 18 #[.int .u8 s, .int .i32 r] w fun e w' => e = .returned (.int .i32 (charset s r)) ∧ sat W H w' := by
  by_cases s1 : s = 1
  · subst s1
    by_cases r35 : r = 35
    · subst r35
      have HF := Lib.hid (show charset 1 35 = 163 from rfl)
      go_enter Try.func18, Try.ntmps18
      go_wp2_with (first
    | (go_at_call 32; first | (refine (in32_true _ _ _ _ (by omega)).mono ?_; rintro e w' ⟨rfl, rfl⟩) | (refine (in32_false _ _ _ _ (by omega)).mono ?_; rintro e w' ⟨rfl, rfl⟩))
    | (go_at_call 37; refine (graphics37 hs).mono ?_; clear hs; rintro e w ⟨rfl, hs⟩)
    | (refine wrap hs ?_; clear hs; intro w hs)
    | (refine wrapn hs ?_; clear hs; intro w hs)
    | (refine wrapd hs ?_; clear hs; intro w hs))
      go_ret
      exact ⟨ret_int HF.out, hs⟩
    · have e1 : (r == 35) = false := by simpa using r35
      have HF := Lib.hid (show charset 1 r = r by unfold charset; rw [if_neg (fun h => r35 h.2), if_neg (fun h => absurd h.1 (by decide))])
      go_enter Try.func18, Try.ntmps18
      go_wp2_with (first
    | (go_at_call 32; first | (refine (in32_true _ _ _ _ (by omega)).mono ?_; rintro e w' ⟨rfl, rfl⟩) | (refine (in32_false _ _ _ _ (by omega)).mono ?_; rintro e w' ⟨rfl, rfl⟩))
    | (go_at_call 37; refine (graphics37 hs).mono ?_; clear hs; rintro e w ⟨rfl, hs⟩)
    | (refine wrap hs ?_; clear hs; intro w hs)
    | (refine wrapn hs ?_; clear hs; intro w hs)
    | (refine wrapd hs ?_; clear hs; intro w hs))
      go_ret
      exact ⟨ret_int HF.out, hs⟩
  · by_cases s2 : s = 2
    · subst s2
      clear s1
      by_cases hr : 95 ≤ r ∧ r ≤ 126
      · obtain ⟨k, hk⟩ := Int.eq_ofNat_of_zero_le (show 0 ≤ r - 95 by omega)
        obtain rfl : r = k + 95 := by omega
        have hk32 : k < 32 := by omega
        have HV := Lib.hid (gfx_all k hk32)
        have HF := Lib.hid (show charset 2 (k + 95) = gfx (k + 95) by unfold charset; rw [if_neg (fun h => absurd h.1 (by decide)), if_pos ⟨rfl, hr⟩])
        generalize gfx (k + 95) = v at *
        go_enter Try.func18, Try.ntmps18
        go_wp2_with (first
    | (go_at_call 32; first | (refine (in32_true _ _ _ _ (by omega)).mono ?_; rintro e w' ⟨rfl, rfl⟩) | (refine (in32_false _ _ _ _ (by omega)).mono ?_; rintro e w' ⟨rfl, rfl⟩))
    | (go_at_call 37; refine (graphics37 hs).mono ?_; clear hs; rintro e w ⟨rfl, hs⟩)
    | (apply ix; exact rfl; exact rfl; exact rfl; exact rfl; exact Try.underlying41; kernel_rfl; exact hk32; exact HV.out)
    | (refine wrap hs ?_; clear hs; intro w hs)
    | (refine wrapn hs ?_; clear hs; intro w hs)
    | (refine wrapd hs ?_; clear hs; intro w hs))
        go_ret
        exact ⟨ret_int HF.out, hs⟩
      · have n95 : ¬ r = 95 := by omega
        have e95 : (r == 95) = false := by simpa using n95
        have HF := Lib.hid (show charset 2 r = r by unfold charset; rw [if_neg (fun h => absurd h.1 (by decide)), if_neg (fun h => hr h.2)])
        go_enter Try.func18, Try.ntmps18
        go_wp2_with (first
    | (go_at_call 32; first | (refine (in32_true _ _ _ _ (by omega)).mono ?_; rintro e w' ⟨rfl, rfl⟩) | (refine (in32_false _ _ _ _ (by omega)).mono ?_; rintro e w' ⟨rfl, rfl⟩))
    | (go_at_call 37; refine (graphics37 hs).mono ?_; clear hs; rintro e w ⟨rfl, hs⟩)
    | (refine wrap hs ?_; clear hs; intro w hs)
    | (refine wrapn hs ?_; clear hs; intro w hs)
    | (refine wrapd hs ?_; clear hs; intro w hs))
        go_ret
        exact ⟨ret_int HF.out, hs⟩
    · have e1 : (s == 1) = false := by simpa using s1
      have e2 : (s == 2) = false := by simpa using s2
      have HF := Lib.hid (show charset s r = r by unfold charset; rw [if_neg (fun h => s1 h.1), if_neg (fun h => s2 h.1)])
      go_enter Try.func18, Try.ntmps18
      go_wp2_with (first
    | (go_at_call 32; first | (refine (in32_true _ _ _ _ (by omega)).mono ?_; rintro e w' ⟨rfl, rfl⟩) | (refine (in32_false _ _ _ _ (by omega)).mono ?_; rintro e w' ⟨rfl, rfl⟩))
    | (go_at_call 37; refine (graphics37 hs).mono ?_; clear hs; rintro e w ⟨rfl, hs⟩)
    | (refine wrap hs ?_; clear hs; intro w hs)
    | (refine wrapn hs ?_; clear hs; intro w hs)
    | (refine wrapd hs ?_; clear hs; intro w hs))
      go_ret
      exact ⟨ret_int HF.out, hs⟩
set_option maxHeartbeats 4000000 in
theorem charset19 (s r : Int) (hs : sat W H w) : Calls Try.prog 19 #[.int .u8 s, .int .i32 r] w fun e w' => e = .returned (.int .i32 (charset s r)) ∧ sat W H w' := by
  by_cases s1 : s = 1
  · subst s1
    by_cases r35 : r = 35
    · subst r35
      have HF := Lib.hid (show charset 1 35 = 163 from rfl)
      go_enter Try.func19, Try.ntmps19
      go_wp2_with (first
    | (go_at_call 34; first | (refine (in34_true _ _ _ _ (by omega)).mono ?_; rintro e w' ⟨rfl, rfl⟩) | (refine (in34_false _ _ _ _ (by omega)).mono ?_; rintro e w' ⟨rfl, rfl⟩))
    | (go_at_call 38; refine (graphic38 _ (by omega) hs).mono ?_; clear hs; rintro e w ⟨rfl, hs⟩)
    | (refine wrap hs ?_; clear hs; intro w hs)
    | (refine wrapn hs ?_; clear hs; intro w hs)
    | (refine wrapd hs ?_; clear hs; intro w hs))
      go_ret
      exact ⟨ret_int HF.out, hs⟩
    · have e1 : (r == 35) = false := by simpa using r35
      have HF := Lib.hid (show charset 1 r = r by unfold charset; rw [if_neg (fun h => r35 h.2), if_neg (fun h => absurd h.1 (by decide))])
      go_enter Try.func19, Try.ntmps19
      go_wp2_with (first
    | (go_at_call 34; first | (refine (in34_true _ _ _ _ (by omega)).mono ?_; rintro e w' ⟨rfl, rfl⟩) | (refine (in34_false _ _ _ _ (by omega)).mono ?_; rintro e w' ⟨rfl, rfl⟩))
    | (go_at_call 38; refine (graphic38 _ (by omega) hs).mono ?_; clear hs; rintro e w ⟨rfl, hs⟩)
    | (refine wrap hs ?_; clear hs; intro w hs)
    | (refine wrapn hs ?_; clear hs; intro w hs)
    | (refine wrapd hs ?_; clear hs; intro w hs))
      go_ret
      exact ⟨ret_int HF.out, hs⟩
  · by_cases s2 : s = 2
    · subst s2
      clear s1
      by_cases hr : 95 ≤ r ∧ r ≤ 126
      · by_cases n95 : r = 95
        · subst n95
          have HF := Lib.hid (show charset 2 95 = 32 from rfl)
          go_enter Try.func19, Try.ntmps19
          go_wp2_with (first
    | (go_at_call 34; first | (refine (in34_true _ _ _ _ (by omega)).mono ?_; rintro e w' ⟨rfl, rfl⟩) | (refine (in34_false _ _ _ _ (by omega)).mono ?_; rintro e w' ⟨rfl, rfl⟩))
    | (go_at_call 38; refine (graphic38 _ (by omega) hs).mono ?_; clear hs; rintro e w ⟨rfl, hs⟩)
    | (refine wrap hs ?_; clear hs; intro w hs)
    | (refine wrapn hs ?_; clear hs; intro w hs)
    | (refine wrapd hs ?_; clear hs; intro w hs))
          go_ret
          exact ⟨ret_int HF.out, hs⟩
        · have e95 : (r == 95) = false := by simpa using n95
          have HF := Lib.hid (show charset 2 r = gfx r by unfold charset; rw [if_neg (fun h => absurd h.1 (by decide)), if_pos ⟨rfl, hr⟩])
          go_enter Try.func19, Try.ntmps19
          go_wp2_with (first
    | (go_at_call 34; first | (refine (in34_true _ _ _ _ (by omega)).mono ?_; rintro e w' ⟨rfl, rfl⟩) | (refine (in34_false _ _ _ _ (by omega)).mono ?_; rintro e w' ⟨rfl, rfl⟩))
    | (go_at_call 38; refine (graphic38 _ (by omega) hs).mono ?_; clear hs; rintro e w ⟨rfl, hs⟩)
    | (refine wrap hs ?_; clear hs; intro w hs)
    | (refine wrapn hs ?_; clear hs; intro w hs)
    | (refine wrapd hs ?_; clear hs; intro w hs))
          go_ret
          exact ⟨ret_int HF.out, hs⟩
      · have n95 : ¬ r = 95 := by omega
        have e95 : (r == 95) = false := by simpa using n95
        have HF := Lib.hid (show charset 2 r = r by unfold charset; rw [if_neg (fun h => absurd h.1 (by decide)), if_neg (fun h => hr h.2)])
        go_enter Try.func19, Try.ntmps19
        go_wp2_with (first
    | (go_at_call 34; first | (refine (in34_true _ _ _ _ (by omega)).mono ?_; rintro e w' ⟨rfl, rfl⟩) | (refine (in34_false _ _ _ _ (by omega)).mono ?_; rintro e w' ⟨rfl, rfl⟩))
    | (go_at_call 38; refine (graphic38 _ (by omega) hs).mono ?_; clear hs; rintro e w ⟨rfl, hs⟩)
    | (refine wrap hs ?_; clear hs; intro w hs)
    | (refine wrapn hs ?_; clear hs; intro w hs)
    | (refine wrapd hs ?_; clear hs; intro w hs))
        go_ret
        exact ⟨ret_int HF.out, hs⟩
    · have e1 : (s == 1) = false := by simpa using s1
      have e2 : (s == 2) = false := by simpa using s2
      have HF := Lib.hid (show charset s r = r by unfold charset; rw [if_neg (fun h => s1 h.1), if_neg (fun h => s2 h.1)])
      go_enter Try.func19, Try.ntmps19
      go_wp2_with (first
    | (go_at_call 34; first | (refine (in34_true _ _ _ _ (by omega)).mono ?_; rintro e w' ⟨rfl, rfl⟩) | (refine (in34_false _ _ _ _ (by omega)).mono ?_; rintro e w' ⟨rfl, rfl⟩))
    | (go_at_call 38; refine (graphic38 _ (by omega) hs).mono ?_; clear hs; rintro e w ⟨rfl, hs⟩)
    | (refine wrap hs ?_; clear hs; intro w hs)
    | (refine wrapn hs ?_; clear hs; intro w hs)
    | (refine wrapd hs ?_; clear hs; intro w hs))
      go_ret
      exact ⟨ret_int HF.out, hs⟩
end Go.Proofs.Ytjchjdlapacknaa
