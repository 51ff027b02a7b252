import Derived.Test.YtpgnallldehgmaaD3
import Derived.Test.YtpgnallldehgmaaD2
import Derived.Laws.BitsAllLaws
import Derived.Outline
namespace Go.Proofs.Ytpgnallldehgmaa
open Go.RowKit Go.Mem Go.Dots
variable {W w : World} {H : List HProp}
theorem txt_nil : txt [] = [] := rfl
attribute [local irreducible] World.setCell World.alloc World.drew World.drewN Calls sat cel own blk old wpQuiet bs by_ cellTxt txt
theorem bits_bit (c d : Nat) (hc : c < 256) : (bits .and .u8 ((c : Int) / 2 ^ d) 1 == 1) = bit c d := by
  have h1 : ((c : Int) / 2 ^ d) = ((c / 2 ^ d : Nat) : Int) := by rw [Int.natCast_ediv, Int.natCast_pow]; rfl
  have h2 : c / 2 ^ d < 256 := Nat.lt_of_le_of_lt (Nat.div_le_self _ _) hc
  rw [h1, show (1 : Int) = ((1 : Nat) : Int) from rfl, u8_and_nat _ _ h2 (by omega), Nat.and_one_is_mod]
  unfold bit
  rw [Bool.eq_iff_iff, beq_iff_eq, beq_iff_eq]
  omega
theorem slty28 : SlTy Try.prog 28 5 1 1 := ⟨Try.underlying28, by obtain ⟨i0, hi, hz0, hz1, hz2⟩ := info_parts (show (Try.prog.info? 5).map (fun i => (i.zero, i.size, i.bytes)) = some (some (.int .u8 0), 1, 1) by kernel_rfl); exact ⟨i0, _, hi, hz0, hz1, hz2, rfl⟩, by decide⟩

set_option maxHeartbeats 1000000 in
theorem text10 (l : List Nat) (hl : ∀ x ∈ l, x < 256) (hlen : l.length ≤ 1000) (v : Value) (hr : ∀ w', sat W H w' → Reads w' v (nums .u8 l)) (hs : sat W H w) :
    Calls Try.prog 10 #[v] w fun e w' => e = .returned (.string (bs (txt l))) ∧ sat W H w' := by
  obtain ⟨_, ad, cap, rfl, _⟩ := hr w hs
  rw [nums_length] at hr ⊢
  have HR := Lib.hid hr
  clear hr
  generalize hn : l.length = n at *
  have HN := Lib.hid hn
  clear hn
  have hs := hs.own_nil 5 1
  go_enter Try.func10, Try.ntmps10
  go_wp2_with (first
    | (refine wrap hs ?_; clear hs; intro w hs)
    | (refine wrapn hs ?_; clear hs; intro w hs)
    | (refine wrapd hs ?_; clear hs; intro w hs))
  go_loopw [3, 9] (fun bv i wr => ∃ (k m : Nat) (t : List Nat) (a : Option Addr) (cp : Nat), k ≤ n ∧ Hid (t = txt (l.take k)) ∧ m ≤ 10 * k ∧ i = .int .i64 k ∧ bv = .slice a m cp ∧ sat W (own 5 1 (.slice a m cp) m (nums .u8 t) :: H) wr) (fun _ i _ => n - (intOf i).toNat)
  case atStart => exact ⟨0, 0, [], none, 0, Nat.zero_le _, txt_nil.symm, by omega, rfl, rfl, hs⟩
  case round =>
    clear hs
    obtain ⟨k, m, t, a, cp, hk, ht, hm2, rfl, rfl, hs⟩ := hrel
    by_cases hlt : k < n
    · obtain ⟨-, b, off, rfl, hc⟩ := reads_cells HR.out hs.drop (by rw [nums_length, HN.out]; omega)
      have HC := Lib.hid (fun w' h => hc w' h k _ (nums_get (by rw [HN.out]; exact hlt)))
      clear hc
      have hc8 : l.getD k 0 < 256 := by
        rw [List.getD_eq_getElem?_getD, List.getElem?_eq_getElem (by rw [HN.out]; exact hlt)]; exact hl _ (List.getElem_mem _)
      have HT := Lib.hid (show txt (l.take (k + 1)) = t ++ (if 0 < k then [45] else []) ++ cellTxt (l.getD k 0) by
        have hkl : k < l.length := by rw [HN.out]; exact hlt
        rw [List.take_succ_eq_append_getElem hkl, txt_snoc, ← ht.out, List.getD_eq_getElem?_getD, List.getElem?_eq_getElem hkl, List.length_take, Nat.min_eq_left (by omega)]
        rfl)
      have HL := Lib.hid hl
      clear hl
      generalize l.getD k 0 = c at *
      obtain ⟨z, HZ⟩ : ∃ z : Bool, Hid (z = decide (c = 0)) := ⟨_, Lib.hid rfl⟩
      have e1 : ((c : Int) == 0) = z := by rw [HZ.out, Bool.eq_iff_iff, beq_iff_eq, decide_eq_true_iff]; omega
      obtain ⟨y, HY⟩ : ∃ y : Bool, Hid (y = decide (0 < k)) := ⟨_, Lib.hid rfl⟩
      have e2 : decide (0 < k) = y := HY.out.symm
      obtain ⟨t0, HT0⟩ : ∃ t0, Hid (t0 = t ++ (if y then [45] else []) ++ (if z then [48] else [])) := ⟨_, Lib.hid rfl⟩
      have HT2 := Lib.hid (show txt (l.take (k + 1)) = t0 ++ dig c 8 by
        rw [HT.out, HT0.out, HY.out, HZ.out]; unfold cellTxt; simp)
      cases y
      all_goals
        cases z
        all_goals
          go_wp2_with (first
    | (apply ldc; exact rfl; exact rfl; exact rfl; exact HC.out _ hs.drop; kernel_rfl)
    | (apply app hs.b1; exact rfl; exact rfl; exact rfl; exact rfl; exact slty28; exact rfl; exact rfl; decide; omega; unfold maxLen; omega; clear hs; intro a1 c1 w hs)
    | (refine wrap hs ?_; clear hs; intro w hs)
    | (refine wrapn hs ?_; clear hs; intro w hs)
    | (refine wrapd hs ?_; clear hs; intro w hs))
          clear e1 e2
          go_loopw [3, 24] (fun bv dv wr => ∃ (d m2 : Nat) (t2 : List Nat) (a : Option Addr) (cp : Nat), d ≤ 8 ∧ Hid (t2 = t0 ++ dig c d) ∧ m2 ≤ 10 * k + 2 + d ∧ dv = .int .u8 d ∧ bv = .slice a m2 cp ∧ sat W (own 5 1 (.slice a m2 cp) m2 (nums .u8 t2) :: H) wr) (fun _ i _ => 8 - (intOf i).toNat)
          case atStart => exact ⟨0, _, t0, _, _, by omega, Lib.hid (by simp [dig]), by omega, rfl, rfl, by rw [HT0.out]; simpa [nums] using hs⟩
          case round =>
            clear hs
            obtain ⟨d, m2, t2, a2, cp2, hd, ht2, hm3, rfl, rfl, hs⟩ := hrel
            by_cases hlt2 : d < 8
            · have HD := Lib.hid (dig_succ c d)
              obtain ⟨x, HX⟩ : ∃ x, Hid (x = bit c d) := ⟨_, Lib.hid rfl⟩
              have e3 : (bits .and .u8 ((c : Int) / 2 ^ d) 1 == 1) = x := by rw [HX.out]; exact bits_bit c d hc8
              cases x
              all_goals
                go_wp2_with (first
    | (apply app hs.b1; exact rfl; exact rfl; exact rfl; exact rfl; exact slty28; exact rfl; exact rfl; decide; omega; unfold maxLen; omega; clear hs; intro a1 c1 w hs)
    | (refine wrap hs ?_; clear hs; intro w hs)
    | (refine wrapn hs ?_; clear hs; intro w hs)
    | (refine wrapd hs ?_; clear hs; intro w hs))
                go_roundw
                case rel => exact ⟨d + 1, _, t2 ++ (if bit c d then [49 + d] else []), _, _, by omega, Lib.hid (by rw [HD.out, ht2.out, List.append_assoc]), by omega, by go_num, rfl, by rw [← HX.out]; simpa [nums] using hs⟩
                case measure => simp [intOf]; omega
            · have hd8 : d = 8 := by omega
              have H8 := Lib.hid hd8
              clear hd8
              go_wp2
              go_roundw
              case rel => exact ⟨k + 1, m2, t2, _, _, by omega, by rw [ht2.out, H8.out, HT2.out]; rfl, by omega, by go_num, rfl, hs⟩
              case measure => simp [intOf]; omega
    · have HK := Lib.hid (show k = n by omega)
      go_wp2_with (first
    | (apply cvs (l := t); exact rfl; exact rfl; exact rfl; exact Try.underlying28; exact Try.underlying5; exact Try.underlying9; exact (hs.own_reads).1)
    | (refine wrap hs ?_; clear hs; intro w hs)
    | (refine wrapn hs ?_; clear hs; intro w hs)
    | (refine wrapd hs ?_; clear hs; intro w hs))
      go_ret
      exact ⟨by rw [ht.out, List.take_of_length_le (by rw [HN.out, HK.out]; exact Nat.le_refl _)]; rfl, hs.drop⟩
end Go.Proofs.Ytpgnallldehgmaa
