/- Law 6: arguments; RowPlays, of any argument. -/
import Derived.Test.YteoeeiinngpogaaV22
namespace Go.Proofs.Yteoeeiinngpogaa
open Go.RowKit Go.Mem Go.Cells
section
variable {E : Type} {enc : TypeId × Value → E} {w : World}
theorem cells33 : Try.prog.cellsOf 33 = 3 := by kernel_rfl
theorem cells35 : Try.prog.cellsOf 35 = 8 := by kernel_rfl
theorem cells3 : Try.prog.cellsOf 3 = 1 := by kernel_rfl
theorem cells4 : Try.prog.cellsOf 4 = 1 := by kernel_rfl
theorem cells21 : Try.prog.cellsOf 21 = 1 := by kernel_rfl
theorem cells30 : Try.prog.cellsOf 30 = 1 := by kernel_rfl
theorem cells31 : Try.prog.cellsOf 31 = 1 := by kernel_rfl
theorem rd_at {cs : List Value} (h : Rd enc Try.prog w 33 cs) : ∃ a : At, cs = aC a := by
  obtain ⟨hl, hf⟩ := rd_struct Try.underlying33 h
  rw [cells33] at hl
  match cs, hl with
  | [c0, c1, c2], _ =>
    have f0 : Rd enc Try.prog w 30 (([c0, c1, c2].drop 0).take (Try.prog.cellsOf 30)) := hf 0 _ rfl
    have f1 : Rd enc Try.prog w 30 (([c0, c1, c2].drop 1).take (Try.prog.cellsOf 30)) := hf 1 _ rfl
    have f2 : Rd enc Try.prog w 31 (([c0, c1, c2].drop 2).take (Try.prog.cellsOf 31)) := hf 2 _ rfl
    rw [cells30] at f0 f1
    rw [cells31] at f2
    obtain ⟨i0, e0, _⟩ := rd_int Try.underlying30 f0
    obtain ⟨i1, e1, _⟩ := rd_int Try.underlying30 f1
    obtain ⟨i2, e2, _⟩ := rd_int Try.underlying31 f2
    simp at e0 e1 e2
    subst e0 e1 e2
    exact ⟨⟨i0, i1, i2⟩, rfl⟩
theorem rd_op {cs : List Value} (h : Rd enc Try.prog w 35 cs) : ∃ o : Op, cs = opL o := by
  obtain ⟨hl, hf⟩ := rd_struct Try.underlying35 h
  rw [cells35] at hl
  match cs, hl with
  | [c0, c1, c2, c3, c4, c5, c6, c7], _ =>
    have f0 : Rd enc Try.prog w 3 (([c0, c1, c2, c3, c4, c5, c6, c7].drop 0).take (Try.prog.cellsOf 3)) := hf 0 _ rfl
    have f1 : Rd enc Try.prog w 3 (([c0, c1, c2, c3, c4, c5, c6, c7].drop 1).take (Try.prog.cellsOf 3)) := hf 1 _ rfl
    have f2 : Rd enc Try.prog w 3 (([c0, c1, c2, c3, c4, c5, c6, c7].drop 2).take (Try.prog.cellsOf 3)) := hf 2 _ rfl
    have f3 : Rd enc Try.prog w 21 (([c0, c1, c2, c3, c4, c5, c6, c7].drop 3).take (Try.prog.cellsOf 21)) := hf 3 _ rfl
    have f4 : Rd enc Try.prog w 4 (([c0, c1, c2, c3, c4, c5, c6, c7].drop 4).take (Try.prog.cellsOf 4)) := hf 4 _ rfl
    have f5 : Rd enc Try.prog w 33 (([c0, c1, c2, c3, c4, c5, c6, c7].drop 5).take (Try.prog.cellsOf 33)) := hf 5 _ rfl
    rw [cells3] at f0 f1 f2
    rw [cells21] at f3
    rw [cells4] at f4
    rw [cells33] at f5
    obtain ⟨i0, e0, _⟩ := rd_int Try.underlying3 f0
    obtain ⟨i1, e1, _⟩ := rd_int Try.underlying3 f1
    obtain ⟨i2, e2, _⟩ := rd_int Try.underlying3 f2
    obtain ⟨i3, e3, _⟩ := rd_int Try.underlying21 f3
    obtain ⟨b0, e4⟩ := rd_bool Try.underlying4 f4
    obtain ⟨⟨fg, bg, fl⟩, e5⟩ := rd_at f5
    simp at e0 e1 e2 e3 e4 e5
    obtain ⟨e5, e6, e7⟩ := e5
    subst e0 e1 e2 e3 e4 e5 e6 e7
    exact ⟨⟨i0, i1, i2, i3, b0, ⟨fg, bg, fl⟩⟩, rfl⟩
theorem sr_ops {a : Option Addr} {n c : Nat} (h : Rd enc Try.prog w 22 [.slice a n c]) : ∃ l : List Op, ∀ (W : World) (H : List HProp), SR 8 W (old w :: H) a n c (l.map opL) := by
  obtain ⟨L, h1, h2, h3, h4, h5⟩ := rd_slice Try.underlying22 cells35 (by decide) h
  obtain ⟨l, hl⟩ := rd_map (f := opL) (fun cs hc => rd_op (h4 cs hc))
  refine ⟨l, fun W H => ?_⟩
  rw [hl] at h1 h5
  exact h5.sr h1 h2 h3 W H
theorem plays_top (a0 : Int) (a1 : Option Addr) (n1 c1 : Nat) (w : World) (_ : (Lit.int .i64 a0).wf = true) (r1 : Rd enc Try.prog w 22 [.slice a1 n1 c1]) :
    Calls Try.prog 5 #[.int .i64 a0, .slice a1 n1 c1] w fun e w' => e = .returned (.bool true) ∧ Below w.heap.size w w' := by
  obtain ⟨l, hl⟩ := sr_ops r1
  by_cases h : 1 ≤ a0 ∧ a0 ≤ 512
  · obtain ⟨c0, rfl⟩ : ∃ c0 : Nat, a0 = (c0 : Int) := ⟨a0.toNat, by omega⟩
    by_cases h2 : 60 < n1 ∨ 100 < c0
    · exact (plays5_long (by omega) (by omega) h2 (sat.start w)).mono fun _ _ ⟨he, hs⟩ => ⟨he, hs.below⟩
    · exact (plays5_go (by omega) (by omega) (by omega) (hl w []) (sat.start w)).mono fun _ _ ⟨he, hs⟩ => ⟨he, hs.below⟩
  · exact (plays5_no h (sat.start w)).mono fun _ _ ⟨he, hs⟩ => ⟨he, hs.below⟩
end
end Go.Proofs.Yteoeeiinngpogaa
