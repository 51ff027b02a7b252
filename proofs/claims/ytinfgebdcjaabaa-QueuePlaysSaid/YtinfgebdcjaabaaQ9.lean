/- Law 18: the words of a text. -/
import Derived.Test.YtinfgebdcjaabaaQ8
import Derived.Test.YtinfgebdcjaabaaSl
import Derived.Lib.DecodeN
namespace Go.Proofs.Ytinfgebdcjaabaa
open Go.RowKit Go.Mem Go.Queue
variable {W w : World} {H : List HProp}
def bt (s : ByteArray) (p : Nat) : Nat := (s.get! p).toNat
/-- Does a word begin at p, if there is something? -/
def wst (s : ByteArray) : Nat → Bool
  | 0 => true
  | p + 1 => decide (bt s p = 32)
/-- How many words begin ahead of p. -/
def wc (s : ByteArray) : Nat → Nat
  | 0 => 0
  | p + 1 => wc s p + (if bt s p ≠ 32 ∧ wst s p = true then 1 else 0)
def wordsOf (s : ByteArray) : Nat := wc s s.size
theorem wc_le (s : ByteArray) : ∀ p, wc s p ≤ p
  | 0 => Nat.le_refl _
  | p + 1 => by
    have := wc_le s p
    unfold wc
    split <;> omega
set_option maxRecDepth 100000 in
theorem dec_facts (n b0 b1 b2 b3 : Nat) (hn : 0 < n) : (Lib.decodeN n b0 b1 b2 b3).2 ≤ n ∧ 1 ≤ (Lib.decodeN n b0 b1 b2 b3).2 ∧ (Lib.decodeN n b0 b1 b2 b3).2 ≤ 4 ∧ (2 ≤ (Lib.decodeN n b0 b1 b2 b3).2 → b1 ≠ 32 ∧ b0 ≠ 32) ∧ (3 ≤ (Lib.decodeN n b0 b1 b2 b3).2 → b2 ≠ 32) ∧ (4 ≤ (Lib.decodeN n b0 b1 b2 b3).2 → b3 ≠ 32) ∧ ((Lib.decodeN n b0 b1 b2 b3).1 = 32 ↔ b0 = 32) := by
  unfold Lib.decodeN
  repeat' split
  all_goals simp only
  all_goals first | omega | exact ⟨by omega, by omega, by omega, fun h => absurd h (by omega), fun h => absurd h (by omega), fun h => absurd h (by omega), trivial⟩
theorem wc_keep (s : ByteArray) (p : Nat) (h0 : bt s p ≠ 32) : ∀ k, (∀ i, i < k → bt s (p + 1 + i) ≠ 32) → wc s (p + 1 + k) = wc s (p + 1) ∧ wst s (p + 1 + k) = false
  | 0, _ => ⟨rfl, by show decide (bt s p = 32) = false; exact decide_eq_false h0⟩
  | k + 1, h => by
    obtain ⟨h1, h2⟩ := wc_keep s p h0 k fun i hi => h i (by omega)
    refine ⟨?_, ?_⟩
    · show wc s (p + 1 + k) + (if _ then 1 else 0) = _
      rw [h1, if_neg (fun hh => by have := hh.2; rw [show (p + 1).add k = p + 1 + k from rfl, h2] at this; cases this)]
      omega
    · show decide (bt s (p + 1 + k) = 32) = false
      exact decide_eq_false (h k (by omega))
theorem word_step (s : ByteArray) (p r wd : Nat) (hp : p < s.size) (hd : Utf8.decode s p = (r, wd)) : p + wd ≤ s.size ∧ 1 ≤ wd ∧ wc s (p + wd) = wc s p + (if r ≠ 32 ∧ wst s p = true then 1 else 0) ∧ wst s (p + wd) = decide (r = 32) := by
  rw [Lib.decode_at] at hd
  obtain ⟨h1, h2, h3, h4, h5, h6, h7⟩ := dec_facts (s.size - p) (s.get! p).toNat (s.get! (p + 1)).toNat (s.get! (p + 2)).toNat (s.get! (p + 3)).toNat (by omega)
  rw [hd] at h1 h2 h3 h4 h5 h6 h7
  simp only at h1 h2 h3 h4 h5 h6 h7
  refine ⟨by omega, h2, ?_⟩
  by_cases hb : bt s p = 32
  · have hr : r = 32 := h7.2 hb
    have hw : wd = 1 := by
      by_cases h : 2 ≤ wd
      · exact absurd hb (h4 h).2
      · omega
    subst hw; subst hr
    refine ⟨?_, ?_⟩
    · show wc s p + (if _ then 1 else 0) = _
      rw [if_neg (by simp [hb]), if_neg (by simp)]
    · show decide (bt s p = 32) = _
      simp [hb]
  · have hr : r ≠ 32 := fun h => hb (h7.1 h)
    have hk := wc_keep s p hb (wd - 1) (fun i hi => by
      rcases i with _ | _ | _ | i
      · exact (h4 (by omega)).1
      · exact h5 (by omega)
      · exact h6 (by omega)
      · omega)
    rw [show p + wd = p + 1 + (wd - 1) by omega, hk.1, hk.2]
    refine ⟨?_, by simp [hr]⟩
    show wc s p + (if _ then 1 else 0) = _
    simp [hb, hr]
attribute [local irreducible] World.setCell World.setCells World.alloc World.drew World.drewN Calls sat cel own blk old wpQuiet wpList qu uts gn World.rangeAt tru leastUpto bestUpto si Utf8.decode wc wst
set_option maxHeartbeats 1000000 in
theorem words35 (s : ByteArray) (hlen : s.size ≤ 100000) (hs : sat W H w) : Calls Try.prog 35 #[.string s] w fun e w' => e = .returned (.int .i64 (wordsOf s : Int)) ∧ sat W H w' := by
  have HW : Hid (wordsOf s = wc s s.size) := Lib.hid rfl
  go_enter Try.func35, Try.ntmps35
  go_wp2_with (first | ((with_reducible refine isl ?_); first | ((with_reducible refine wrap hs ?_); clear hs; intro w hs) | ((with_reducible refine wrapn hs ?_); clear hs; intro w hs) | ((with_reducible refine wrapd hs ?_); clear hs; intro w hs)))
  have hs := hs.iter s
  generalize w.iter s 0 = w1 at *
  generalize w.heap.size = g at *
  go_loopw [3, 4] (fun v3 v4 wr => ∃ (p k : Nat) (l : Int), p ≤ s.size ∧ k ≤ p ∧ v3 = .int .i64 (k : Int) ∧ v4 = .int .i32 l ∧ Hid (k = wc s p) ∧ Hid ((l == 32) = wst s p) ∧ sat W (si g s p :: H) wr) (fun _ _ w' => s.size - w'.iterPos g)
  case atStart => exact ⟨0, 0, 32, Nat.zero_le _, Nat.zero_le _, rfl, rfl, Lib.hid (by unfold wc; rfl), Lib.hid (by unfold wst; rfl), hs⟩
  case round =>
    clear hs
    obtain ⟨p, k, l, hp, hk, rfl, rfl, HK, HL, hs⟩ := hrel
    have HI := Lib.hid (sat.iter_pos hs)
    by_cases hlt : p < s.size
    · generalize hde : Utf8.decode s p = v at *
      obtain ⟨r, wd⟩ := v
      have HV := Lib.hid hde
      obtain ⟨hw1, hw2, hw3, hw4⟩ := word_step s p r wd hlt hde
      have HW3 := Lib.hid hw3
      have HW4 := Lib.hid hw4
      clear hde hw3 hw4
      by_cases hr : r = 32
      · have g1 : ((r : Int) == 32) = true := by simp; omega
        go_wp2_with (first | (apply nxd hs; exact rfl; exact rfl; exact rfl; exact hlt; exact HV.out; clear hs; intro w hs) | ((with_reducible refine isl ?_); first | ((with_reducible refine wrap hs ?_); clear hs; intro w hs) | ((with_reducible refine wrapn hs ?_); clear hs; intro w hs) | ((with_reducible refine wrapd hs ?_); clear hs; intro w hs)))
        go_roundw
        case rel => exact ⟨p + wd, k, r, by omega, by omega, by go_num, by go_num, Lib.hid (by rw [HW3.out, if_neg (by simp [hr]), ← HK.out]; rfl), Lib.hid (by rw [HW4.out]; simp [hr]), by (refine sb_from ?_ hs; repeat constructor)⟩
        case measure => rw [HI.out, sat.iter_pos hs]; omega
      · cases hl : (l == 32) with
        | true =>
          have g1 : ((r : Int) == 32) = false := by simp; omega
          go_wp2_with (first | (apply nxd hs; exact rfl; exact rfl; exact rfl; exact hlt; exact HV.out; clear hs; intro w hs) | ((with_reducible refine isl ?_); first | ((with_reducible refine wrap hs ?_); clear hs; intro w hs) | ((with_reducible refine wrapn hs ?_); clear hs; intro w hs) | ((with_reducible refine wrapd hs ?_); clear hs; intro w hs)))
          go_roundw
          case rel => exact ⟨p + wd, k + 1, r, by omega, by omega, by go_num, by go_num, Lib.hid (by rw [HW3.out, if_pos ⟨hr, by rw [← HL.out, hl]⟩, ← HK.out]), Lib.hid (by rw [HW4.out, g1]; simp [hr]), by (refine sb_from ?_ hs; repeat constructor)⟩
          case measure => rw [HI.out, sat.iter_pos hs]; omega
        | false =>
          have g1 : ((r : Int) == 32) = false := by simp; omega
          go_wp2_with (first | (apply nxd hs; exact rfl; exact rfl; exact rfl; exact hlt; exact HV.out; clear hs; intro w hs) | ((with_reducible refine isl ?_); first | ((with_reducible refine wrap hs ?_); clear hs; intro w hs) | ((with_reducible refine wrapn hs ?_); clear hs; intro w hs) | ((with_reducible refine wrapd hs ?_); clear hs; intro w hs)))
          go_roundw
          case rel => exact ⟨p + wd, k, r, by omega, by omega, by go_num, by go_num, Lib.hid (by rw [HW3.out, if_neg (by rw [← HL.out, hl]; simp), ← HK.out]; rfl), Lib.hid (by rw [HW4.out, g1]; simp [hr]), by (refine sb_from ?_ hs; repeat constructor)⟩
          case measure => rw [HI.out, sat.iter_pos hs]; omega
    · have HK2 := Lib.hid (show p = s.size by omega)
      go_wp2_with (first | (apply nxe hs; exact rfl; exact rfl; exact rfl; exact hlt) | ((with_reducible refine isl ?_); first | ((with_reducible refine wrap hs ?_); clear hs; intro w hs) | ((with_reducible refine wrapn hs ?_); clear hs; intro w hs) | ((with_reducible refine wrapd hs ?_); clear hs; intro w hs)))
      go_ret
      rw [HW.out, ← HK2.out, ← HK.out]
      exact ⟨rfl, hs.drop⟩
end Go.Proofs.Ytinfgebdcjaabaa
