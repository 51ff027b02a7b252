/- Law 20: a text in memory; what only reads it. -/
import Derived.Test.YtcheljogpffabaaSf
import Derived.Test.YtcheljogpffabaaProg
import Derived.Test.YtcheljogpffabaaW1
import Derived.Test.YtcheljogpffabaaSi
import Derived.Test.YtcheljogpffabaaSp
import Derived.RegionTactic
import Derived.BigRegion
import Derived.ChangeAlike
import Derived.Deep.Cut
import Derived.Deep.CutRange
import Derived.Deep.CutBlock
import Derived.Deep.DeepCutAuto
namespace Go.Proofs.Ytcheljogpffabaa
open Go.RowKit Go.Mem Go.Words
variable {W w : World} {H : List HProp}
theorem dr0 (w : World) : w = w.drewN 0 := rfl
theorem beq_no {n k : Int} (h : n ≠ k) : (n == k) = false := by simpa using h
abbrev i32s (l : List Int) : List Value := l.map (Value.int .i32)
abbrev bools (l : List Bool) : List Value := l.map Value.bool
abbrev txL (x : Tx) (aR aP aC aB : Option Addr) (cR cP cC cB : Nat) : List Value := [.slice aR x.runes.length cR, .slice aP x.places.length cP, .slice aC x.cols.length cC, .slice aB x.blank.length cB]
/-- A text stands in block t, with its rows. -/
def tx (t : Nat) (x : Tx) : HProp := fun h => ∃ aR aP aC aB cR cP cC cB, star (cel t 117 (txL x aR aP aC aB cR cP cC cB)) (star (own 21 1 (.slice aR x.runes.length cR) x.runes.length (i32s x.runes)) (star (own 3 1 (.slice aP x.places.length cP) x.places.length (nums .i64 x.places)) (star (own 3 1 (.slice aC x.cols.length cC) x.cols.length (nums .i64 x.cols)) (own 4 1 (.slice aB x.blank.length cB) x.blank.length (bools x.blank))))) h
theorem _root_.Go.Mem.sat.tx_open {t : Nat} {x : Tx} (hs : sat W (tx t x :: H) w) : ∃ aR aP aC aB cR cP cC cB, sat W (cel t 117 (txL x aR aP aC aB cR cP cC cB) :: own 21 1 (.slice aR x.runes.length cR) x.runes.length (i32s x.runes) :: own 3 1 (.slice aP x.places.length cP) x.places.length (nums .i64 x.places) :: own 3 1 (.slice aC x.cols.length cC) x.cols.length (nums .i64 x.cols) :: own 4 1 (.slice aB x.blank.length cB) x.blank.length (bools x.blank) :: H) w := by
  unfold tx at hs
  obtain ⟨aR, hs⟩ := hs.ex
  obtain ⟨aP, hs⟩ := hs.ex
  obtain ⟨aC, hs⟩ := hs.ex
  obtain ⟨aB, hs⟩ := hs.ex
  obtain ⟨cR, hs⟩ := hs.ex
  obtain ⟨cP, hs⟩ := hs.ex
  obtain ⟨cC, hs⟩ := hs.ex
  obtain ⟨cB, hs⟩ := hs.ex
  have hs := hs.unstar.b1.unstar.b1.unstar.b1.unstar
  refine ⟨aR, aP, aC, aB, cR, cP, cC, cB, ?_⟩
  exact (by (refine sb_from ?_ hs; repeat constructor))
theorem _root_.Go.Mem.sat.tx_close {t : Nat} {x : Tx} {aR aP aC aB : Option Addr} {cR cP cC cB : Nat} (hs : sat W (cel t 117 (txL x aR aP aC aB cR cP cC cB) :: own 21 1 (.slice aR x.runes.length cR) x.runes.length (i32s x.runes) :: own 3 1 (.slice aP x.places.length cP) x.places.length (nums .i64 x.places) :: own 3 1 (.slice aC x.cols.length cC) x.cols.length (nums .i64 x.cols) :: own 4 1 (.slice aB x.blank.length cB) x.blank.length (bools x.blank) :: H) w) : sat W (tx t x :: H) w :=
  hs.b4.b4.star.b3.star.b2.star.b1.star.imp fun _ h => ⟨aR, aP, aC, aB, cR, cP, cC, cB, h⟩
attribute [local irreducible] World.setCell World.setCells World.alloc World.drew World.drewN Calls sat cel own blk old wpQuiet wpList tx
variable {t : Nat} {x : Tx}
theorem cols12 (hs : sat W (tx t x :: H) w) : Calls Try.prog 61 #[.pointer (some ⟨t, 0, none⟩)] w fun e w' => e = .returned (.int .i64 x.blank.length) ∧ w' = w := by
  obtain ⟨aR, aP, aC, aB, cR, cP, cC, cB, hs⟩ := hs.tx_open
  go_enter Try.func61, Try.ntmps61
  go_wp2_with (first | ((with_reducible refine isl ?_); first | ((with_reducible apply ldx); exact rfl; exact rfl; exact rfl; exact hs.b0; exact rfl; kernel_rfl) | ((with_reducible apply stx); exact rfl; exact rfl; exact rfl; exact hs.b0; exact rfl; exact rfl; exact rfl; kernel_rfl; exact rfl; clear hs; intro w hs) | ((with_reducible apply stcx); exact rfl; exact rfl; exact rfl; exact hs.b0; exact rfl; exact rfl; kernel_rfl; exact rfl; clear hs; intro w hs) | ((with_reducible refine wrap hs ?_); clear hs; intro w hs) | ((with_reducible refine wrapn hs ?_); clear hs; intro w hs) | ((with_reducible refine wrapd hs ?_); clear hs; intro w hs)))
  go_ret
  exact ⟨rfl, rfl⟩
theorem cols12_nil (w : World) : Calls Try.prog 61 #[.pointer none] w fun e w' => e = .returned (.int .i64 0) ∧ w' = w := by
  go_enter Try.func61, Try.ntmps61
  go_wp2
  go_ret
  exact ⟨rfl, rfl⟩
theorem nums_cell {w : World} {a : Option Addr} {n c : Nat} {l : List Nat} (h : Reads w (.slice a n c) (nums .i64 l)) {i : Nat} (hi : i < l.length) : ∃ b o, a = some ⟨b, o, none⟩ ∧ w.cell? ⟨b, o + i, none⟩ = some (.int .i64 (l.getD i 0 : Nat)) := by
  obtain ⟨_, a', c', e, h2⟩ := h
  cases e
  obtain ⟨b, o, e2, h3⟩ := h2 (by intro h; have := congrArg List.length h; simp [nums] at this; rw [this] at hi; exact absurd hi (Nat.not_lt_zero _))
  exact ⟨b, o, e2, h3 i _ (nums_get hi)⟩
end Go.Proofs.Ytcheljogpffabaa
