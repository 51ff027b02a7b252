/- Law 20: the iterator of a text's words. -/
import Derived.Test.YtcheljogpffabaaW3
import Derived.Test.YtcheljogpffabaaW6
import Derived.Shelf.Abstract
import Derived.Shelf.RegionOpen
namespace Go.Proofs.Ytcheljogpffabaa
open Go.RowKit Go.Mem Go.Words Go.Shelf
variable {W w : World} {H : List HProp}
theorem bne_yes {n k : Int} (h : n ≠ k) : (n != k) = true := by simpa using h
theorem reads_bool {w : World} {a : Option Addr} {c : Nat} {l : List Bool} {n : Nat} (h : Reads w (.slice a n c) (bools l)) {i : Nat} (hi : i < l.length) : ∃ b o, a = some ⟨b, o, none⟩ ∧ w.cell? ⟨b, o + i, none⟩ = some (.bool (l.getD i false)) := by
  obtain ⟨_, a', c', e, h2⟩ := h
  cases e
  obtain ⟨b, o, e2, h3⟩ := h2 (by intro h; have := congrArg List.length h; simp at this; rw [this] at hi; exact absurd hi (Nat.not_lt_zero _))
  exact ⟨b, o, e2, h3 i _ (bools_get hi)⟩
attribute [local go_sem] Oper.semAt_some
abbrev exV (p : Nat × Nat) : Value := .agg #[.int .i64 (p.1 : Int), .int .i64 (p.2 : Int)]
set_option maxHeartbeats 1000000 in
theorem all39 {t z : Nat} {x : Tx} (hn : x.blank.length ≤ 1000) : IterS Try.prog 73 #[.pointer (some ⟨z, 0, none⟩)] (fun p : Nat × Nat => #[exV p]) [cel z 100 [.pointer (some ⟨t, 0, none⟩)], tx t x] (words x.blank) := by
  intro l W0 J Jx w hJ hSt hSx hY h0
  refine callsIn_of_wp Try.func73 rfl trivial ?_ rfl
  simp only [Try.ntmps73, List.size_toArray, List.length_cons, List.length_nil, Nat.reduceAdd, Nat.reduceSub, Array.replicate_succ, Array.replicate_zero, List.push_toArray, List.append_toArray, List.nil_append, List.cons_append]
  gi_wp2
  gi_loopw [3, 4] (fun i _ wr => ∃ (f : Nat) (pre : List (Nat × Nat)), f ≤ x.blank.length + 1 ∧ i = .int .i64 (f : Int) ∧ pre ++ wordsFrom x.blank f = words x.blank ∧ J pre wr) (fun i _ _ => ((x.blank.length : Int) + 1 - intOf i).toNat)
  case atStart => exact ⟨0, [], Nat.zero_le _, rfl, rfl, h0⟩
  case round =>
    clear h0
    obtain ⟨f, pre, hf, rfl, hpre, hj⟩ := hrel
    have hs := hJ _ _ hj
    have hc1 : wr.cell? ⟨z, 0, none⟩ = some (.pointer (some ⟨t, 0, none⟩)) := hs.cel_cell rfl
    have hs2 := hs.swap
    obtain ⟨aR, aP, aC, aB, cR, cP, cC, cB, hso⟩ := hs.swap.tx_open
    have hc2 : wr.cell? ⟨t, 3, none⟩ = some (.slice aB x.blank.length cB) := hso.cel_cell rfl
    have hrd := (hso.b4.own_reads).1
    have HRD := Lib.hid hrd
    clear hrd hso hs
    have HP := Lib.hid hpre
    clear hpre
    by_cases hlt : f < x.blank.length
    · gi_wp2_with (first | (refine ⟨trivial, rfl, ?_⟩; gi_at_call 61; refine (callsIn_wide.2 (cols12 hs2)).mono ?_; rintro e w3 ⟨rfl, hw3⟩; rw [hw3]; clear hw3))
      gi_loopw [4] (fun i wq => ∃ m : Nat, (f ≤ m ∧ m ≤ x.blank.length) ∧ i = .int .i64 (m : Int) ∧ Hid (stop x.blank f = stop x.blank m) ∧ wq = wr) (fun i _ => ((x.blank.length : Int) - intOf i).toNat)
      case atStart => exact ⟨f, ⟨Nat.le_refl _, by omega⟩, rfl, Lib.hid rfl, rfl⟩
      case round =>
        obtain ⟨m, ⟨hm1, hm2⟩, rfl, HB, rfl⟩ := hrel
        by_cases hml : m < x.blank.length
        · obtain ⟨bq, oq, rfl, hcq⟩ := reads_bool HRD.out hml
          have hget : x.blank[m]? = some (x.blank.getD m false) := by simp [hml]
          generalize x.blank.getD m false = bb at hcq hget
          have HGET := Lib.hid hget
          clear hget
          cases bb with
          | true =>
            have HM : Hid (stop x.blank f = m) := Lib.hid (by rw [HB.out, stop_at HGET.out])
            by_cases hfm : f < m
            · have hW := Lib.hid (words_one (bl := x.blank) hlt (by rw [HM.out]; exact hfm))
              obtain ⟨fn, tmps, assign, body, hy, hR⟩ := hY pre (f, m) wr hj (by rw [← HP.out, hW.out, HM.out]; exact ⟨_, by rw [List.append_assoc]; rfl⟩)
              dsimp only [exV] at hy
              have hfm2 : (f : Int) < (m : Int) := by omega
              gi_wp2_with (first | (refine ⟨trivial, rfl, ?_⟩; gi_at_call 61; refine (callsIn_wide.2 (cols12 hs2)).mono ?_; rintro e w3 ⟨rfl, hw3⟩; rw [hw3]; clear hw3))
              refine ⟨rfl, hR.mono ?_⟩
              rintro e W3 (⟨rfl, hj3⟩ | ⟨rfl, hx3⟩)
              · gi_wp2
                go_roundw
                case rel => exact ⟨m + 1, pre ++ [(f, m)], by omega, by go_num, by rw [List.append_assoc, List.singleton_append, ← HP.out, hW.out, HM.out], hj3⟩
                case measure => simp [intOf]; omega
              · gi_wp2
                refine bodyPost_ret (results_none rfl _ _ _) rfl ?_
                exact ⟨⟨_, rfl⟩, .inr ⟨_, by rw [← HP.out, hW.out, HM.out]; exact ⟨_, by rw [List.append_assoc]; rfl⟩, hx3⟩⟩
            · obtain rfl : f = m := by omega
              have hW := Lib.hid (words_skip (bl := x.blank) hlt (by rw [HM.out]; exact Nat.lt_irrefl _))
              gi_wp2_with (first | (refine ⟨trivial, rfl, ?_⟩; gi_at_call 61; refine (callsIn_wide.2 (cols12 hs2)).mono ?_; rintro e w3 ⟨rfl, hw3⟩; rw [hw3]; clear hw3))
              go_roundw
              case rel => exact ⟨f + 1, pre, by omega, by go_num, by rw [← HP.out, hW.out], hj⟩
              case measure => simp [intOf]; omega
          | false =>
            have HB2 : Hid (stop x.blank f = stop x.blank (m + 1)) := Lib.hid (by rw [HB.out, stop_on HGET.out])
            gi_wp2_with (first | (refine ⟨trivial, rfl, ?_⟩; gi_at_call 61; refine (callsIn_wide.2 (cols12 hs2)).mono ?_; rintro e w3 ⟨rfl, hw3⟩; rw [hw3]; clear hw3))
            go_roundw
            case rel => exact ⟨m + 1, ⟨by omega, hml⟩, by go_num, HB2, trivial⟩
            case measure => simp [intOf]; omega
        · obtain rfl : m = x.blank.length := by omega
          have HM : Hid (stop x.blank f = x.blank.length) := Lib.hid (by rw [HB.out, stop_end (Nat.le_refl _)])
          have hlt2 : (f : Int) < (x.blank.length : Int) := by omega
          have hW := Lib.hid (words_one (bl := x.blank) hlt (by rw [HM.out]; exact hlt))
          obtain ⟨fn, tmps, assign, body, hy, hR⟩ := hY pre (f, x.blank.length) wr hj (by rw [← HP.out, hW.out, HM.out]; exact ⟨_, by rw [List.append_assoc]; rfl⟩)
          dsimp only [exV] at hy
          gi_wp2_with (first | (refine ⟨trivial, rfl, ?_⟩; gi_at_call 61; refine (callsIn_wide.2 (cols12 hs2)).mono ?_; rintro e w3 ⟨rfl, hw3⟩; rw [hw3]; clear hw3))
          refine ⟨rfl, hR.mono ?_⟩
          rintro e W3 (⟨rfl, hj3⟩ | ⟨rfl, hx3⟩)
          · gi_wp2
            go_roundw
            case rel => exact ⟨x.blank.length + 1, pre ++ [(f, x.blank.length)], Nat.le_refl _, by go_num, by rw [List.append_assoc, List.singleton_append, ← HP.out, hW.out, HM.out], hj3⟩
            case measure => simp [intOf]; omega
          · gi_wp2
            refine bodyPost_ret (results_none rfl _ _ _) rfl ?_
            exact ⟨⟨_, rfl⟩, .inr ⟨_, by rw [← HP.out, hW.out, HM.out]; exact ⟨_, by rw [List.append_assoc]; rfl⟩, hx3⟩⟩
    · have HE := Lib.hid (words_end (bl := x.blank) (i := f) (by omega))
      gi_wp2_with (first | (refine ⟨trivial, rfl, ?_⟩; gi_at_call 61; refine (callsIn_wide.2 (cols12 hs2)).mono ?_; rintro e w3 ⟨rfl, hw3⟩; rw [hw3]; clear hw3))
      go_end0
      exact ⟨⟨_, rfl⟩, .inl (by have := HP.out; rw [HE.out, List.append_nil] at this; rw [← this]; exact hj)⟩
theorem all39_nil {z : Nat} : IterS Try.prog 73 #[.pointer (some ⟨z, 0, none⟩)] (fun p : Nat × Nat => #[exV p]) [cel z 100 [.pointer none]] [] := by
  intro l W0 J Jx w hJ hSt hSx hY h0
  refine callsIn_of_wp Try.func73 rfl trivial ?_ rfl
  simp only [Try.ntmps73, List.size_toArray, List.length_cons, List.length_nil, Nat.reduceAdd, Nat.reduceSub, Array.replicate_succ, Array.replicate_zero, List.push_toArray, List.append_toArray, List.nil_append, List.cons_append]
  gi_wp2
  gi_loopw [3, 4] (fun i _ wr => i = .int .i64 0 ∧ J [] wr) (fun _ _ _ => 0)
  case atStart => exact ⟨rfl, h0⟩
  case round =>
    clear h0
    obtain ⟨rfl, hj⟩ := hrel
    have hs := hJ _ _ hj
    have hc1 : wr.cell? ⟨z, 0, none⟩ = some (.pointer none) := hs.cel_cell rfl
    gi_wp2_with (first | (refine ⟨trivial, rfl, ?_⟩; gi_at_call 61; refine (callsIn_wide.2 (cols12_nil _)).mono ?_; rintro e w3 ⟨rfl, hw3⟩; rw [hw3]; clear hw3))
    go_end0
    exact ⟨⟨_, rfl⟩, .inl hj⟩
end Go.Proofs.Ytcheljogpffabaa
