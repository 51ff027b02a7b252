import Derived.Test.YtdpflhbipolcaaaE5
import Derived.Shelf.Abstract
import Derived.Shelf.RegionOpen
namespace Go.Proofs.Ytdpflhbipolcaaa
open Go.RowKit Go.Mem Go.Typed Go.Shelf
variable {W w : World} {H : List HProp}
attribute [local go_sem] Oper.semAt_some
attribute [local irreducible] tyL ringC
variable {g : Nat → One} {f n : Nat} {life now : Int} {b z : Nat}
abbrev oneV (x : One) : Value := .agg #[.int .i32 x.r, .int .i64 x.to]
theorem q_take {k : Nat} (h : k < n) : (queue g f n).take k ++ [g ((f + k) % 64)] = (queue g f n).take (k + 1) := by
  rw [List.take_add_one, queue_get h]; rfl
theorem all18 (hl : 0 < life) (hf : f < 64) (hn : n ≤ 64) : IterS Try.prog 18 #[.pointer (some ⟨z, 0, none⟩)] (fun x => #[oneV x]) [cel z 24 [.pointer (some ⟨b, 0, none⟩)], cel b 37 (tyL g f n life now)] (queue g f n) := by
  intro l W0 J Jx w hJ hSt hSx hY h0
  refine callsIn_of_wp Try.func18 rfl trivial ?_ rfl
  simp only [Try.ntmps18, List.size_toArray, List.length_cons, List.length_nil, Nat.reduceAdd, Nat.reduceSub, Array.replicate_succ, Array.replicate_zero, List.push_toArray, List.append_toArray, List.nil_append, List.cons_append]
  gi_wp2
  gi_loopw [3] (fun i wr => ∃ k : Nat, k ≤ n ∧ i = .int .i64 (k : Int) ∧ J ((queue g f n).take k) wr) (fun i _ => ((n : Int) - intOf i).toNat)
  case atStart => exact ⟨0, Nat.zero_le _, rfl, h0⟩
  case round =>
    clear h0
    obtain ⟨k, hk, rfl, hj⟩ := hrel
    have hs := hJ _ _ hj
    have hc1 : wr.cell? ⟨z, 0, none⟩ = some (.pointer (some ⟨b, 0, none⟩)) := hs.cel_cell rfl
    have hc2 : wr.cell? ⟨b, 129, none⟩ = some (.int .i64 n) := hs.swap.cel_cell ty_n
    by_cases hkn : k < n
    · have hc3 : wr.cell? ⟨b, (f + k) % 64 * 2, none⟩ = some (.int .i32 (g ((f + k) % 64)).r) := hs.swap.cel_cell (ty_r (by omega))
      have hc4 : wr.cell? ⟨b, (f + k) % 64 * 2 + 1, none⟩ = some (.int .i64 (g ((f + k) % 64)).to) := hs.swap.cel_cell (ty_to (by omega))
      gi_wp2_with (first | (refine ⟨trivial, rfl, ?_⟩; gi_at_call 13; refine (callsIn_wide.2 (none13 hl hs.swap)).mono ?_; rintro e w' ⟨rfl, k1, rfl⟩) | (refine ⟨trivial, rfl, ?_⟩; gi_at_call 15; refine (callsIn_wide.2 (at15 k hf (by omega) (hs.swap.drewN _))).mono ?_; rintro e w' ⟨rfl, k2, rfl⟩; obtain ⟨fn, tmps, assign, body, hy, hR⟩ := hY _ (g ((f + k) % 64)) _ ((hSt _ _ hj).1 (k1 + k2)) (by rw [q_take hkn]; exact List.take_prefix _ _); dsimp only [oneV] at hy))
      rw [q_take hkn] at hR
      refine ⟨rfl, hR.mono ?_⟩
      rintro e W3 (⟨rfl, hj3⟩ | ⟨rfl, hx3⟩)
      · gi_wp2
        go_roundw
        case rel => exact ⟨k + 1, hkn, by go_num, hj3⟩
        case measure => simp [intOf]; omega
      · gi_wp2
        refine bodyPost_ret (results_none rfl _ _ _) rfl ?_
        exact ⟨⟨_, rfl⟩, .inr ⟨_, List.take_prefix _ _, hx3⟩⟩
    · have hkn : k = n := by omega
      subst hkn
      gi_wp2_with (first | (refine ⟨trivial, rfl, ?_⟩; gi_at_call 13; refine (callsIn_wide.2 (none13 hl hs.swap)).mono ?_; rintro e w' ⟨rfl, k1, rfl⟩))
      go_end0
      exact ⟨⟨_, rfl⟩, .inl (by have := (hSt _ _ hj).1 k1; rwa [List.take_of_length_le (by rw [queue_len]; exact Nat.le_refl _)] at this)⟩
theorem all18_none {p : Value} {Hs : List HProp} (hr : ∀ W0 w, sat W0 Hs w → Calls Try.prog 13 #[p] w fun e w' => e = .returned (.bool true) ∧ ∃ k, w' = w.drewN k) : IterS Try.prog 18 #[.pointer (some ⟨z, 0, none⟩)] (fun x => #[oneV x]) (cel z 24 [p] :: Hs) [] := by
  intro l W0 J Jx w hJ hSt hSx hY h0
  refine callsIn_of_wp Try.func18 rfl trivial ?_ rfl
  simp only [Try.ntmps18, List.size_toArray, List.length_cons, List.length_nil, Nat.reduceAdd, Nat.reduceSub, Array.replicate_succ, Array.replicate_zero, List.push_toArray, List.append_toArray, List.nil_append, List.cons_append]
  gi_wp2
  gi_loopw [3] (fun i wr => i = .int .i64 0 ∧ J [] wr) (fun _ _ => 0)
  case atStart => exact ⟨rfl, h0⟩
  case round =>
    clear h0
    obtain ⟨rfl, hj⟩ := hrel
    have hs := hJ _ _ hj
    have hc1 : wr.cell? ⟨z, 0, none⟩ = some p := hs.cel_cell rfl
    gi_wp2_with (first | (refine ⟨trivial, rfl, ?_⟩; gi_at_call 13; refine (callsIn_wide.2 (hr _ _ hs.drop)).mono ?_; rintro e w' ⟨rfl, k1, rfl⟩))
    go_end0
    exact ⟨⟨_, rfl⟩, .inl ((hSt _ _ hj).1 k1)⟩
end Go.Proofs.Ytdpflhbipolcaaa
