import Derived.Test.YtdbhgjkdblhhkaaProg
import Derived.Test.YtdbhgjkdblhhkaaSi
import Derived.Test.YtdbhgjkdblhhkaaSp
import Derived.Test.YtdbhgjkdblhhkaaP1
import Derived.RegionTactic
import Derived.BigRegion
import Derived.ChangeAlike
import Derived.Deep.Cut
import Derived.Deep.CutRange
import Derived.Deep.CutBlock
import Derived.Deep.DeepCutAuto
import Derived.Shelf.Abstract
import Derived.Shelf.RegionOpen
namespace Go.Proofs.Ytdbhgjkdblhhkaa
open Go.RowKit Go.Mem Go.Shelf
variable {W w : World} {H : List HProp}
theorem dr0 (w : World) : w = w.drewN 0 := rfl
theorem beq_no {n k : Int} (h : n ≠ k) : (n == k) = false := by simpa using h
theorem bne_yes {n k : Int} (h : n ≠ k) : (n != k) = true := by simpa using h
/-- Cells that read so wherever Hc holds. -/
def RdC (Hc : List HProp) (a : Option Addr) (n c : Nat) (cells : List Int) : Prop := ∀ W0 w', sat W0 Hc w' → SR 1 W0 Hc a n c (cells.map fun x => [.int .u8 x])
theorem RdC.cell {Hc : List HProp} {a : Option Addr} {n c : Nat} {cells : List Int} (h : RdC Hc a n c cells) {w' : World} (hs : sat W Hc w') {i : Nat} (hi : i < n) : ∃ b o, a = some ⟨b, o, none⟩ ∧ w'.cell? ⟨b, o + i, none⟩ = some (.int .u8 (cells.getD i 0)) := by
  obtain ⟨x, hx, b, o, e, hc⟩ := (h W w' hs).getb hs hi
  refine ⟨b, o, e, ?_⟩
  rw [hc _ hs, List.getD_eq_getElem?_getD, hx]; rfl
theorem RdC.len {Hc : List HProp} {a : Option Addr} {n c : Nat} {cells : List Int} (h : RdC Hc a n c cells) {w' : World} (hs : sat W Hc w') : n = cells.length ∧ n ≤ maxLen := by
  have := (h W w' hs).len
  rw [List.length_map] at this
  exact ⟨this.1, by omega⟩
theorem RdC.mono {Hc Hd : List HProp} {a : Option Addr} {n c : Nat} {cells : List Int} (h : RdC Hc a n c cells) (f : ∀ W0 w', sat W0 Hd w' → sat W0 Hc w') : RdC Hd a n c cells :=
  fun W0 w' hs => (h W0 w' (f W0 w' hs)).mono fun w2 => f W0 w2
theorem RdC.more {Hc : List HProp} {A : HProp} {a : Option Addr} {n c : Nat} {cells : List Int} (h : RdC Hc a n c cells) : RdC (A :: Hc) a n c cells := h.mono fun _ _ hs => hs.drop
attribute [local go_sem] Oper.semAt_some
theorem all33 {cells : List Int} {wd : Nat} (hw : 0 < wd) (hw2 : wd ≤ 1000) {Hc : List HProp} {a : Option Addr} {n c zc zw : Nat} (hr : RdC Hc a n c cells) :
    IterS Try.prog 33 #[.pointer (some ⟨zc, 0, none⟩), .pointer (some ⟨zw, 0, none⟩)] (fun b : Nat => #[.int .i64 b]) (cel zw 3 [.int .i64 wd] :: cel zc 22 [.slice a n c] :: Hc) (Pan.begs cells wd hw 0) := by
  intro l W0 J Jx w hJ hSt hSx hY h0
  have hn := (hr.len (hJ _ _ h0).drop.drop)
  obtain ⟨hn1, hn2⟩ := hn
  unfold maxLen at hn2
  have HN := Lib.hid hn1
  clear hn1
  refine callsIn_of_wp Try.func33 rfl trivial ?_ rfl
  simp only [Try.ntmps33, List.size_toArray, List.length_cons, List.length_nil, Nat.reduceAdd, Nat.reduceSub, Array.replicate_succ, Array.replicate_zero, List.push_toArray, List.append_toArray, List.nil_append, List.cons_append]
  gi_wp2
  gi_loopw [4, 5] (fun i _ wr => ∃ (b : Nat) (pre : List Nat), b ≤ n ∧ i = .int .i64 (b : Int) ∧ pre ++ Pan.begs cells wd hw b = Pan.begs cells wd hw 0 ∧ J pre wr) (fun i _ _ => ((n : Int) - intOf i).toNat)
  case atStart => exact ⟨0, [], Nat.zero_le _, rfl, rfl, h0⟩
  case round =>
    clear h0
    obtain ⟨b, pre, hb, rfl, hpre, hj⟩ := hrel
    have hs := hJ _ _ hj
    have hbeg : ∃ tl, Pan.begs cells wd hw b = b :: tl := by
      by_cases h : wd < cells.length - b
      · exact ⟨_, Pan.begs_more h⟩
      · exact ⟨_, Pan.begs_last h⟩
    obtain ⟨tl, htl⟩ := hbeg
    obtain ⟨fn, tmps, assign, body, hy, hR⟩ := hY pre b wr hj (by rw [← hpre, htl]; exact ⟨tl, by simp⟩)
    gi_wp2
    refine ⟨rfl, hR.mono ?_⟩
    rintro e W3 (⟨rfl, hj3⟩ | ⟨rfl, hx3⟩)
    · have hs3 := hJ _ _ hj3
      have hc1 : W3.cell? ⟨zw, 0, none⟩ = some (.int .i64 wd) := hs3.cel_cell rfl
      have hc2 : W3.cell? ⟨zc, 0, none⟩ = some (.slice a n c) := hs3.swap.cel_cell rfl
      by_cases hmore : wd < cells.length - b
      · have h1 : (wd : Int) < (n : Int) - (b : Int) := by have := HN.out; omega
        have h2 : b + wd < n := by have := HN.out; omega
        have HM := Lib.hid hmore
        clear hmore
        gi_wp2
        gi_loopw [5] (fun i wq => ∃ m : Nat, (b ≤ m ∧ m ≤ b + wd) ∧ i = .int .i64 (m : Int) ∧ Hid (Pan.back cells b m = Pan.back cells b (b + wd)) ∧ wq = W3) (fun i _ => (intOf i).toNat)
        case atStart => exact ⟨b + wd, ⟨by omega, Nat.le_refl _⟩, by go_num, Lib.hid rfl, rfl⟩
        case round =>
          obtain ⟨m, ⟨hm1, hm2⟩, rfl, HB, rfl⟩ := hrel
          by_cases hbm : b < m
          · obtain ⟨bb, o, rfl, hcm⟩ := hr.cell hs3.drop.drop (show m < n by omega)
            obtain ⟨k, rfl⟩ : ∃ k, m = k + 1 := ⟨m - 1, by omega⟩
            obtain ⟨bb2, o2, e2, hck⟩ := hr.cell hs3.drop.drop (show k < n by omega)
            cases e2
            have hk1 : (b : Int) < (k : Int) + 1 := by omega
            have hk2 : (k : Int) + 1 < (n : Int) := by omega
            have hk3 : (k : Int) < (n : Int) := by omega
            have hk4 : ((k : Int) + 1 == (b : Int)) = false := beq_no (by omega)
            obtain ⟨x1, hx1⟩ : ∃ x1, cells.getD (k + 1) 0 = x1 := ⟨_, rfl⟩
            obtain ⟨x2, hx2⟩ : ∃ x2, cells.getD k 0 = x2 := ⟨_, rfl⟩
            rw [hx1] at hcm
            rw [hx2] at hck
            by_cases v1 : x1 = 0
            · have HNX := Lib.hid (Pan.next_stop hbm (.inl (hx1.trans v1)) HB.out)
              clear hx1 hx2
              subst v1
              gi_wp2
              go_roundw
              case rel => exact ⟨k + 1, pre ++ [b], by have := HNX.out; have := HN.out; have := HM.out; omega, by go_num, by rw [List.append_assoc]; rw [Pan.begs_more HM.out, HNX.out] at hpre; exact hpre, hj3⟩
              case measure => simp [intOf]; omega
            · have c1 := bne_yes v1
              by_cases v2 : x2 = 0
              · have HNX := Lib.hid (Pan.next_stop hbm (.inr (hx2.trans v2)) HB.out)
                clear hx1 hx2 v1
                subst v2
                gi_wp2
                go_roundw
                case rel => exact ⟨k + 1, pre ++ [b], by have := HNX.out; have := HN.out; have := HM.out; omega, by go_num, by rw [List.append_assoc]; rw [Pan.begs_more HM.out, HNX.out] at hpre; exact hpre, hj3⟩
                case measure => simp [intOf]; omega
              · have c2 := bne_yes v2
                have HB2 := Lib.hid (Pan.back_on hbm (by rw [hx1]; exact v1) (by rw [hx2]; exact v2) HB.out)
                clear v1 v2 hx1 hx2
                gi_wp2
                go_roundw
                case rel => exact ⟨k, ⟨by omega, by omega⟩, by go_num, HB2, trivial⟩
                case measure => simp [intOf]
          · obtain rfl : b = m := by omega
            have HNX := Lib.hid (Pan.next_full HB.out)
            gi_wp2
            go_roundw
            case rel => exact ⟨b + wd, pre ++ [b], by have := HNX.out; have := HN.out; have := HM.out; omega, by go_num, by rw [List.append_assoc]; rw [Pan.begs_more HM.out, HNX.out] at hpre; exact hpre, hj3⟩
            case measure => simp [intOf]; omega
      · have h1 : ¬ (wd : Int) < (n : Int) - (b : Int) := by have := HN.out; omega
        have HE := Lib.hid (Pan.begs_last (hw := hw) hmore)
        clear hmore
        gi_wp2
        go_end0
        exact ⟨⟨_, rfl⟩, .inl (by rw [HE.out] at hpre; rw [← hpre]; exact hj3)⟩
    · gi_wp2
      go_end0
      exact ⟨⟨_, rfl⟩, .inr ⟨_, ⟨tl, by rw [← hpre, htl]; simp⟩, hx3⟩⟩
end Go.Proofs.Ytdbhgjkdblhhkaa
