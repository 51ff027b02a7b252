import Derived.Test.YtpgnallldehgmaaProg
import Derived.Test.YtpgnallldehgmaaSr
import Derived.Test.YtpgnallldehgmaaSl
import Derived.Test.YtpgnallldehgmaaD1
import Derived.Outline
namespace Go.Proofs.Ytpgnallldehgmaa
open Go.RowKit Go.Mem Go.Dots
variable {W w : World} {H : List HProp}
attribute [local irreducible] World.setCell World.alloc World.drew World.drewN Calls sat cel own blk old wpQuiet bs by_

theorem rune8 (c : Nat) (hc : c < 256) (w : World) : Calls Try.prog 8 #[.int .u8 c] w fun e w' => e = .returned (.int .i32 (10240 + c : Nat)) ∧ w' = w := by
  go_enter Try.func8, Try.ntmps8
  go_wp2
  go_ret
  exact ⟨ret_int (by omega), rfl⟩
theorem cell7_yes (r : Int) (h : 10240 ≤ r ∧ r ≤ 10495) (w : World) : Calls Try.prog 7 #[.int .i32 r] w fun e w' => e = .returned (.tuple #[.int .u8 (r - 10240), .int .i64 0]) ∧ w' = w := by
  obtain ⟨h1, h2⟩ := h
  have e1 : decide (r < 10240) = false := by simp; omega
  have e2 : decide (10495 < r) = false := by simp; omega
  go_enter Try.func7, Try.ntmps7
  go_wp2
  refine end_ret rfl (results_tmp2 rfl _ _ _) ?_
  exact ⟨rfl, rfl⟩
theorem cell7_no (r : Int) (h : ¬(10240 ≤ r ∧ r ≤ 10495)) (w : World) : Calls Try.prog 7 #[.int .i32 r] w fun e w' => e = .returned (.tuple #[.int .u8 0, .int .i64 2]) ∧ w' = w := by
  by_cases h1 : r < 10240
  · have e1 : decide (r < 10240) = true := by simp; omega
    clear h
    go_enter Try.func7, Try.ntmps7
    go_wp2
    refine end_ret rfl (results_tmp2 rfl _ _ _) ?_
    exact ⟨rfl, rfl⟩
  · have e1 : decide (r < 10240) = false := by simp; omega
    have e2 : decide (10495 < r) = true := by simp; omega
    clear h
    go_enter Try.func7, Try.ntmps7
    go_wp2
    refine end_ret rfl (results_tmp2 rfl _ _ _) ?_
    exact ⟨rfl, rfl⟩
theorem bit_int (c q k : Nat) (h : q = 2 ^ k) : ((c : Int) / (q : Int) % 2 == 1) = bit c k := by
  subst h
  unfold bit
  rw [← Int.natCast_ediv, Bool.eq_iff_iff, beq_iff_eq, beq_iff_eq]
  omega
theorem dig_len (c : Nat) : ∀ k, (dig c k).length ≤ k
  | 0 => Nat.le_refl _
  | k + 1 => by
    have := dig_len c k
    rw [dig_succ, List.length_append]
    split <;> simp <;> omega
theorem pow8 {k : Nat} (h : k ≤ 8) : 1 ≤ 2 ^ k ∧ 2 ^ k ≤ 256 := by
  have : k = 0 ∨ k = 1 ∨ k = 2 ∨ k = 3 ∨ k = 4 ∨ k = 5 ∨ k = 6 ∨ k = 7 ∨ k = 8 := by omega
  rcases this with rfl | rfl | rfl | rfl | rfl | rfl | rfl | rfl | rfl <;> decide
set_option maxHeartbeats 1000000 in
theorem one19 (c : Nat) (hc : c < 256) (hs : sat W H w) : Calls Try.prog 19 #[.int .u8 c] w fun e w' => e = .returned (.string (bs (cellTxt c))) ∧ sat W H w' := by
  go_enter Try.func19, Try.ntmps19
  go_wp2_with (first
    | (refine wrap hs ?_; clear hs; intro w hs)
    | (refine wrapn hs ?_; clear hs; intro w hs)
    | (refine wrapd hs ?_; clear hs; intro w hs))
  go_loopw [3, 4, 5] (fun s p d wr => ∃ (k q : Nat), k ≤ 8 ∧ Hid (q = 2 ^ k) ∧ 1 ≤ q ∧ q ≤ 256 ∧ d = .int .i64 (k + 1 : Nat) ∧ p = .int .i64 q ∧ s = .string (bs (dig c k)) ∧ sat W H wr) (fun _ _ d _ => 9 - (intOf d).toNat)
  case atStart => exact ⟨0, 1, by omega, rfl, by omega, by omega, rfl, rfl, by rw [show dig c 0 = [] from rfl, bs_nil], hs⟩
  case round =>
    clear hs
    obtain ⟨k, q, hk, hq, q1, q2, rfl, rfl, rfl, hs⟩ := hrel
    by_cases hlt : k < 8
    · have HB := Lib.hid (bit_int c q k hq.out)
      have hb1 : (0 : Int) ≤ (c : Int) / (q : Int) := Int.ediv_nonneg (by omega) (by omega)
      have hb2 : (c : Int) / (q : Int) ≤ 255 := by
        have := Int.ediv_le_self (a := (c : Int)) (q : Int) (by omega); omega
      have hq2 : Hid (q * 2 = 2 ^ (k + 1)) := by show q * 2 = 2 ^ (k + 1); rw [hq.out, Nat.pow_succ]
      have hp := (pow8 (show k + 1 ≤ 8 by omega)).2
      rw [← hq2.out] at hp
      have HD := Lib.hid (dig_succ c k)
      have hsz : ¬ 9223372036854775807 < (bs (dig c k)).size + (bs [49 + k]).size := by
        rw [bs_size, bs_size]; have := dig_len c k; simp; omega
      cases hbit : bit c k
      · rw [hbit] at HB
        have e1 := HB.out
        go_wp2_with (first
    | (refine wrap hs ?_; clear hs; intro w hs)
    | (refine wrapn hs ?_; clear hs; intro w hs)
    | (refine wrapd hs ?_; clear hs; intro w hs))
        go_roundw
        case rel => exact ⟨k + 1, q * 2, by omega, hq2, by omega, by omega, by go_num, by go_num, by rw [HD.out, hbit]; simp, hs⟩
        case measure => simp [intOf]; omega
      · rw [hbit] at HB
        have e1 := HB.out
        go_wp2_with (first
    | (apply cvs (l := [49 + k]); exact rfl; exact rfl; exact rfl; exact Try.underlying28; exact Try.underlying5; exact Try.underlying9; exact reads_one (hs.cel_reads (show 1 ≤ maxLen by decide)) (by omega))
    | (refine wrap hs ?_; clear hs; intro w hs)
    | (refine wrapn hs ?_; clear hs; intro w hs)
    | (refine wrapd hs ?_; clear hs; intro w hs))
        go_roundw
        case rel => exact ⟨k + 1, q * 2, by omega, hq2, by omega, by omega, by go_num, by go_num, by rw [HD.out, hbit, bs_append]; rfl, hs.drop⟩
        case measure => simp [intOf]; omega
    · have hk8 : k = 8 := by omega
      have HN := Lib.hid (show dig c k = [] ↔ c = 0 by rw [hk8]; exact dig_nil c hc)
      have HT := Lib.hid (show cellTxt c = (if c = 0 then [48] else []) ++ dig c k by rw [hk8]; rfl)
      have HE := Lib.hid (@str_empty (dig c k))
      clear hk8
      by_cases hd : dig c k = []
      · have e1 : (bs (dig c k)).toList.isEmpty = true := by rw [HE.out, hd]; rfl
        have HF := Lib.hid (show cellTxt c = [48] by rw [HT.out, if_pos (HN.out.1 hd), hd]; rfl)
        clear hd
        go_wp2_with (first
    | (refine wrap hs ?_; clear hs; intro w hs)
    | (refine wrapn hs ?_; clear hs; intro w hs)
    | (refine wrapd hs ?_; clear hs; intro w hs))
        go_ret
        exact ⟨by rw [HF.out, bs_one]; rfl, hs⟩
      · have e1 : (bs (dig c k)).toList.isEmpty = false := by rw [HE.out]; simpa using hd
        have HF := Lib.hid (show cellTxt c = dig c k by rw [HT.out, if_neg (fun h => hd (HN.out.2 h))]; rfl)
        clear hd
        go_wp2_with (first
    | (refine wrap hs ?_; clear hs; intro w hs)
    | (refine wrapn hs ?_; clear hs; intro w hs)
    | (refine wrapd hs ?_; clear hs; intro w hs))
        go_ret
        exact ⟨by rw [HF.out]; rfl, hs⟩

/-- The cell with a text; -1: there is none. -/
def findV (s : ByteArray) : Int := match Dots.part (by_ s) with | some c => (c : Int) | none => -1
theorem findV_some {s : ByteArray} {c : Nat} (hc : c < 256) (h : bs (cellTxt c) = s) : findV s = c := by
  subst h
  unfold findV
  rw [by_bs _ (fun b hb => by have := cellTxt_no c hc b hb; omega), part_all c hc]
theorem findV_none {s : ByteArray} (h : ∀ c < 256, bs (cellTxt c) ≠ s) : findV s = -1 := by
  unfold findV
  cases hp : Dots.part (by_ s) with
  | none => rfl
  | some c =>
    obtain ⟨hc, e⟩ := part_some hp
    exact (h c hc (by rw [e, bs_by])).elim
attribute [local irreducible] cellTxt findV
set_option maxRecDepth 10000 in
set_option maxHeartbeats 1000000 in
theorem find20 (s : ByteArray) (hs : sat W H w) : Calls Try.prog 20 #[.string s] w fun e w' => e = .returned (.int .i64 (findV s)) ∧ sat W H w' := by
  go_enter Try.func20, Try.ntmps20
  go_wp2_with (first
    | (refine wrap hs ?_; clear hs; intro w hs)
    | (refine wrapn hs ?_; clear hs; intro w hs)
    | (refine wrapd hs ?_; clear hs; intro w hs))
  go_loopw [3] (fun c wr => ∃ k : Nat, k ≤ 256 ∧ c = .int .i64 k ∧ Hid (∀ j < k, bs (cellTxt j) ≠ s) ∧ sat W H wr) (fun c _ => 256 - (intOf c).toNat)
  case atStart => exact ⟨0, by omega, rfl, fun j hj => absurd hj (Nat.not_lt_zero j), hs⟩
  case round =>
    clear hs
    obtain ⟨k, hk, rfl, hn, hs⟩ := hrel
    by_cases hlt : k < 256
    · by_cases he : bs (cellTxt k) = s
      · have HF := Lib.hid (findV_some hlt he)
        have HE := Lib.hid he
        clear he
        have e1 := str_eq HE.out
        go_wp2_with (first
    | (go_at_call 19; refine (one19 _ hlt hs).mono ?_; clear hs; rintro e w ⟨rfl, hs⟩)
    | (refine wrap hs ?_; clear hs; intro w hs)
    | (refine wrapn hs ?_; clear hs; intro w hs)
    | (refine wrapd hs ?_; clear hs; intro w hs))
        go_ret
        exact ⟨ret_int HF.out, hs⟩
      · have e1 := str_ne he
        have HE := Lib.hid he
        clear he
        go_wp2_with (first
    | (go_at_call 19; refine (one19 _ hlt hs).mono ?_; clear hs; rintro e w ⟨rfl, hs⟩)
    | (refine wrap hs ?_; clear hs; intro w hs)
    | (refine wrapn hs ?_; clear hs; intro w hs)
    | (refine wrapd hs ?_; clear hs; intro w hs))
        go_roundw
        case rel => exact ⟨k + 1, by omega, by go_num, fun j hj => by
          by_cases e : j = k
          · subst e; exact HE.out
          · exact hn.out j (by omega), hs⟩
        case measure => simp [intOf]; omega
    · have HF := Lib.hid (findV_none fun c hc => hn.out c (by omega))
      go_wp2_with (first
    | (refine wrap hs ?_; clear hs; intro w hs)
    | (refine wrapn hs ?_; clear hs; intro w hs)
    | (refine wrapd hs ?_; clear hs; intro w hs))
      go_ret
      exact ⟨ret_int HF.out, hs⟩
end Go.Proofs.Ytpgnallldehgmaa
