/- Law 18: a queue in memory; its small functions. -/
import Derived.Test.YtinfgebdcjaabaaProg
import Derived.Test.YtinfgebdcjaabaaQ1
import Derived.Test.YtinfgebdcjaabaaSi
import Derived.Test.YtinfgebdcjaabaaSp
import Derived.Test.YtinfgebdcjaabaaSu
import Derived.RegionTactic
import Derived.BigRegion
import Derived.ChangeAlike
import Derived.Deep.Cut
import Derived.Deep.CutRange
import Derived.Deep.CutBlock
import Derived.Deep.DeepCutAuto
namespace Go.Proofs.Ytinfgebdcjaabaa
open Go.RowKit Go.Mem Go.Queue
variable {W w : World} {H : List HProp}
theorem dr0 (w : World) : w = w.drewN 0 := rfl
theorem beq_no {n k : Int} (h : n ≠ k) : (n == k) = false := by simpa using h
abbrev utC (u : Ut) : List Value := [.int .i64 u.num, .string u.text, .int .u64 u.fr, .int .u64 u.to_, .int .u8 u.pr]
abbrev utV (u : Ut) : Value := .agg (utC u).toArray
def uts (l : List Ut) : List Value := (l.map utC).flatten
theorem uts_nil : uts [] = [] := rfl
theorem uts_snoc (l : List Ut) (u : Ut) : uts l ++ utC u = uts (l ++ [u]) := by simp [uts]
theorem row25 : rowTy Try.prog 25 5 = true := by kernel_rfl
theorem row36 : rowTy Try.prog 36 3 = true := by kernel_rfl
theorem row60 : rowTy Try.prog 60 6 = true := by kernel_rfl
theorem one3 : oneTy Try.prog 3 = true := by kernel_rfl
theorem one5 : oneTy Try.prog 5 = true := by kernel_rfl
theorem one23 : oneTy Try.prog 23 = true := by kernel_rfl
theorem one34 : oneTy Try.prog 34 = true := by kernel_rfl
theorem slty34 : SlTy Try.prog 34 25 5 48 := ⟨Try.underlying34, by obtain ⟨i0, hi, hz0, hz1, hz2⟩ := info_parts (show (Try.prog.info? 25).map (fun i => (i.zero, i.size, i.bytes)) = some (some (.agg #[.int .i64 0, .string ⟨#[]⟩, .int .u64 0, .int .u64 0, .int .u8 0]), 5, 48) by kernel_rfl); exact ⟨i0, _, hi, hz0, hz1, hz2, rfl⟩, by decide⟩
abbrev quL (q : Qu) (aW aS : Option Addr) (cW cS : Nat) : List Value := [.int .i64 (q.size : Int), .slice aW q.waits.length cW, .slice aS q.spoken.length cS, .int .i64 q.words, .int .u64 q.last, .int .i64 q.count]
abbrev utO (a : Option Addr) (c : Nat) (l : List Ut) : HProp := own 25 5 (.slice a l.length c) l.length (uts l)
/-- A queue stands in block b, with its rows. -/
def qu (b : Nat) (q : Qu) : HProp := fun h => ∃ aW aS cW cS, star (cel b 60 (quL q aW aS cW cS)) (star (utO aW cW q.waits) (utO aS cS q.spoken)) h
theorem _root_.Go.Mem.sat.qu_open {b : Nat} {q : Qu} (hs : sat W (qu b q :: H) w) : ∃ aW aS cW cS, sat W (cel b 60 (quL q aW aS cW cS) :: utO aW cW q.waits :: utO aS cS q.spoken :: H) w := by
  unfold qu at hs
  obtain ⟨aW, hs⟩ := hs.ex
  obtain ⟨aS, hs⟩ := hs.ex
  obtain ⟨cW, hs⟩ := hs.ex
  obtain ⟨cS, hs⟩ := hs.ex
  have hs := hs.unstar.b1.unstar
  refine ⟨aW, aS, cW, cS, ?_⟩
  exact (by (refine sb_from ?_ hs; repeat constructor))
theorem _root_.Go.Mem.sat.qu_close {b : Nat} {q : Qu} {aW aS : Option Addr} {cW cS : Nat} (hs : sat W (cel b 60 (quL q aW aS cW cS) :: utO aW cW q.waits :: utO aS cS q.spoken :: H) w) : sat W (qu b q :: H) w :=
  hs.b2.b2.star.b1.star.imp fun _ h => ⟨aW, aS, cW, cS, h⟩
attribute [local irreducible] World.setCell World.setCells World.alloc World.drew World.drewN Calls sat cel own blk old wpQuiet wpList qu
variable {b : Nat} {q : Qu}
theorem ready25 (hq : 0 < q.size) (hs : sat W (qu b q :: H) w) : Calls Try.prog 25 #[.pointer (some ⟨b, 0, none⟩)] w fun e w' => e = .returned (.bool true) ∧ w' = w := by
  obtain ⟨aW, aS, cW, cS, hs⟩ := hs.qu_open
  have h0 : (0 : Int) < (q.size : Int) := by omega
  go_enter Try.func25, Try.ntmps25
  go_wp2_with (first | ((with_reducible refine isl ?_); first | ((with_reducible apply ld hs.b0); exact rfl; exact rfl; exact rfl; exact rfl; kernel_rfl) | ((with_reducible apply st hs.b0); exact rfl; exact rfl; exact rfl; exact rfl; exact rfl; exact rfl; kernel_rfl; exact rfl; clear hs; intro w hs) | ((with_reducible apply stc hs.b0); exact rfl; exact rfl; exact rfl; exact rfl; exact rfl; kernel_rfl; exact rfl; clear hs; intro w hs) | ((with_reducible refine wrap hs ?_); clear hs; intro w hs) | ((with_reducible refine wrapn hs ?_); clear hs; intro w hs) | ((with_reducible refine wrapd hs ?_); clear hs; intro w hs)))
  go_ret
  exact ⟨rfl, rfl⟩
theorem ready25_nil (w : World) : Calls Try.prog 25 #[.pointer none] w fun e w' => e = .returned (.bool false) ∧ w' = w := by
  go_enter Try.func25, Try.ntmps25
  go_wp2
  go_ret
  exact ⟨rfl, rfl⟩
theorem ready25_zero (hq : q.size = 0) (hs : sat W (qu b q :: H) w) : Calls Try.prog 25 #[.pointer (some ⟨b, 0, none⟩)] w fun e w' => e = .returned (.bool false) ∧ w' = w := by
  obtain ⟨aW, aS, cW, cS, hs⟩ := hs.qu_open
  have h0 : ¬ (0 : Int) < (q.size : Int) := by omega
  go_enter Try.func25, Try.ntmps25
  go_wp2_with (first | ((with_reducible refine isl ?_); first | ((with_reducible apply ld hs.b0); exact rfl; exact rfl; exact rfl; exact rfl; kernel_rfl) | ((with_reducible apply st hs.b0); exact rfl; exact rfl; exact rfl; exact rfl; exact rfl; exact rfl; kernel_rfl; exact rfl; clear hs; intro w hs) | ((with_reducible apply stc hs.b0); exact rfl; exact rfl; exact rfl; exact rfl; exact rfl; kernel_rfl; exact rfl; clear hs; intro w hs) | ((with_reducible refine wrap hs ?_); clear hs; intro w hs) | ((with_reducible refine wrapn hs ?_); clear hs; intro w hs) | ((with_reducible refine wrapd hs ?_); clear hs; intro w hs)))
  go_ret
  exact ⟨rfl, rfl⟩
theorem size23 (hq : 0 < q.size) (hs : sat W (qu b q :: H) w) : Calls Try.prog 23 #[.pointer (some ⟨b, 0, none⟩)] w fun e w' => e = .returned (.int .i64 (q.size : Int)) ∧ w' = w := by
  have hs0 := hs
  obtain ⟨aW, aS, cW, cS, hs⟩ := hs.qu_open
  go_enter Try.func23, Try.ntmps23
  go_wp2_with (first | (go_at_call 25; refine (ready25 hq hs0).mono ?_; rintro e w3 ⟨rfl, hw3⟩; rw [hw3]; clear hw3) | ((with_reducible refine isl ?_); first | ((with_reducible apply ld hs.b0); exact rfl; exact rfl; exact rfl; exact rfl; kernel_rfl) | ((with_reducible apply st hs.b0); exact rfl; exact rfl; exact rfl; exact rfl; exact rfl; exact rfl; kernel_rfl; exact rfl; clear hs; intro w hs) | ((with_reducible apply stc hs.b0); exact rfl; exact rfl; exact rfl; exact rfl; exact rfl; kernel_rfl; exact rfl; clear hs; intro w hs) | ((with_reducible refine wrap hs ?_); clear hs; intro w hs) | ((with_reducible refine wrapn hs ?_); clear hs; intro w hs) | ((with_reducible refine wrapd hs ?_); clear hs; intro w hs)))
  go_ret
  exact ⟨rfl, rfl⟩
theorem new7 {n : Nat} (h1 : 1 ≤ n) (h2 : n ≤ 64) (hs : sat W H w) : Calls Try.prog 7 #[.int .i64 (n : Int)] w fun e w' => ∃ b, e = .returned (.tuple #[.pointer (some ⟨b, 0, none⟩), .int .i64 0]) ∧ sat W (qu b ⟨n, [], [], 0, 0, 0⟩ :: H) w' := by
  have g1 : decide ((n : Int) < 1) = false := by simp; omega
  have g2 : decide ((64 : Int) < (n : Int)) = false := by simp; omega
  go_enter Try.func7, Try.ntmps7
  go_wp2_with (first | ((with_reducible refine isl ?_); first | ((with_reducible apply ld hs.b0); exact rfl; exact rfl; exact rfl; exact rfl; kernel_rfl) | ((with_reducible apply st hs.b0); exact rfl; exact rfl; exact rfl; exact rfl; exact rfl; exact rfl; kernel_rfl; exact rfl; clear hs; intro w hs) | ((with_reducible apply stc hs.b0); exact rfl; exact rfl; exact rfl; exact rfl; exact rfl; kernel_rfl; exact rfl; clear hs; intro w hs) | ((with_reducible refine wrap hs ?_); clear hs; (first | generalize w.heap.size = z1); intro w hs) | ((with_reducible refine wrap hs ?_); clear hs; intro w hs) | ((with_reducible refine wrapn hs ?_); clear hs; intro w hs) | ((with_reducible refine wrapd hs ?_); clear hs; intro w hs)))
  refine end_ret rfl (results_tmp2 rfl _ _ _) ⟨_, rfl, ?_⟩
  have hs1 := (((hs.made (T := 60) (l := quL ⟨n, [], [], 0, 0, 0⟩ none none 0 0)).own_nil 25 5).own_nil 25 5).b2
  exact hs1.qu_close
theorem new7_no {n : Int} (h : n < 1 ∨ 64 < n) (hs : sat W H w) : Calls Try.prog 7 #[.int .i64 n] w fun e w' => e = .returned (.tuple #[.pointer none, .int .i64 2]) ∧ sat W H w' := by
  by_cases h1 : n < 1
  · have g1 : decide (n < 1) = true := by simpa using h1
    clear h
    go_enter Try.func7, Try.ntmps7
    go_wp2
    refine end_ret rfl (results_tmp2 rfl _ _ _) ⟨rfl, hs⟩
  · have h2 : 64 < n := by omega
    have g1 : decide (n < 1) = false := by simpa using h1
    have g2 : decide (64 < n) = true := by simpa using h2
    clear h
    go_enter Try.func7, Try.ntmps7
    go_wp2
    refine end_ret rfl (results_tmp2 rfl _ _ _) ⟨rfl, hs⟩
theorem span24 (x y : Int) (hs : sat W H w) : Calls Try.prog 24 #[.int .u64 x, .int .u64 y] w fun e w' => e = .returned (utV ⟨0, ⟨#[97, 32, 98]⟩, x, y, 1⟩) ∧ sat W H w' := by
  go_enter Try.func24, Try.ntmps24
  go_wp2_with (first | ((with_reducible refine isl ?_); first | ((with_reducible apply stsw hs.b0); exact rfl; exact rfl; exact rfl; exact rfl; exact row25; exact rfl; exact rfl; exact rfl; clear hs; intro w hs) | ((with_reducible apply ld hs.b0); exact rfl; exact rfl; exact rfl; exact rfl; kernel_rfl) | ((with_reducible apply st hs.b0); exact rfl; exact rfl; exact rfl; exact rfl; exact rfl; exact rfl; kernel_rfl; exact rfl; clear hs; intro w hs) | ((with_reducible apply stc hs.b0); exact rfl; exact rfl; exact rfl; exact rfl; exact rfl; kernel_rfl; exact rfl; clear hs; intro w hs) | ((with_reducible refine wrap hs ?_); clear hs; intro w hs) | ((with_reducible refine wrapn hs ?_); clear hs; intro w hs) | ((with_reducible refine wrapd hs ?_); clear hs; intro w hs)))
  refine ret_cell (l := utC ⟨0, ⟨#[97, 32, 98]⟩, x, y, 1⟩) hs rfl rfl rfl (by kernel_rfl) ⟨rfl, hs.drop⟩
end Go.Proofs.Ytinfgebdcjaabaa
