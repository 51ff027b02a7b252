/- Law 9: ScreenPlays, of any argument. -/
import Derived.Test.YtdcagaaanbgcoaaS31
import Derived.Test.YtdcagaaanbgcoaaSs
namespace Go.Proofs.Ytdcagaaanbgcoaa
open Go.RowKit Go.Mem Go.Cells Go.Lines
section
variable {E : Type} {enc : TypeId × Value → E} {w : World}
theorem cells25 : Try.prog.cellsOf 25 = 3 := by kernel_rfl
theorem cells22 : Try.prog.cellsOf 22 = 1 := by kernel_rfl
theorem cells23 : Try.prog.cellsOf 23 = 1 := by kernel_rfl
set_option maxRecDepth 8000 in
theorem rd_at {cs : List Value} (h : Rd enc Try.prog w 25 cs) : ∃ a : At, cs = aC a := by
  obtain ⟨hl, hf⟩ := rd_struct Try.underlying25 h
  rw [cells25] at hl
  match cs, hl with
  | [c0, c1, c2], _ =>
    have f0 : Rd enc Try.prog w 22 (([c0, c1, c2].drop 0).take (Try.prog.cellsOf 22)) := hf 0 _ rfl
    have f1 : Rd enc Try.prog w 22 (([c0, c1, c2].drop 1).take (Try.prog.cellsOf 22)) := hf 1 _ rfl
    have f2 : Rd enc Try.prog w 23 (([c0, c1, c2].drop 2).take (Try.prog.cellsOf 23)) := hf 2 _ rfl
    rw [cells22] at f0 f1
    rw [cells23] at f2
    obtain ⟨i0, e0, _⟩ := rd_int Try.underlying22 f0
    obtain ⟨i1, e1, _⟩ := rd_int Try.underlying22 f1
    obtain ⟨i2, e2, _⟩ := rd_int Try.underlying23 f2
    simp at e0 e1 e2
    subst e0 e1 e2
    exact ⟨⟨i0, i1, i2⟩, rfl⟩
theorem cells43 : Try.prog.cellsOf 43 = 9 := by kernel_rfl
theorem cells3 : Try.prog.cellsOf 3 = 1 := by kernel_rfl
theorem cells4 : Try.prog.cellsOf 4 = 1 := by kernel_rfl
theorem cells21 : Try.prog.cellsOf 21 = 1 := by kernel_rfl
set_option maxRecDepth 8000 in
theorem rd_op {cs : List Value} (h : Rd enc Try.prog w 43 cs) : ∃ o : Op, cs = opL o := by
  obtain ⟨hl, hf⟩ := rd_struct Try.underlying43 h
  rw [cells43] at hl
  match cs, hl with
  | [c0, c1, c2, c3, c4, c5, c6, c7, c8], _ =>
    have f0 : Rd enc Try.prog w 3 (([c0, c1, c2, c3, c4, c5, c6, c7, c8].drop 0).take (Try.prog.cellsOf 3)) := hf 0 _ rfl
    have f1 : Rd enc Try.prog w 3 (([c0, c1, c2, c3, c4, c5, c6, c7, c8].drop 1).take (Try.prog.cellsOf 3)) := hf 1 _ rfl
    have f2 : Rd enc Try.prog w 3 (([c0, c1, c2, c3, c4, c5, c6, c7, c8].drop 2).take (Try.prog.cellsOf 3)) := hf 2 _ rfl
    have f3 : Rd enc Try.prog w 3 (([c0, c1, c2, c3, c4, c5, c6, c7, c8].drop 3).take (Try.prog.cellsOf 3)) := hf 3 _ rfl
    have f4 : Rd enc Try.prog w 21 (([c0, c1, c2, c3, c4, c5, c6, c7, c8].drop 4).take (Try.prog.cellsOf 21)) := hf 4 _ rfl
    have f5 : Rd enc Try.prog w 4 (([c0, c1, c2, c3, c4, c5, c6, c7, c8].drop 5).take (Try.prog.cellsOf 4)) := hf 5 _ rfl
    have f6 : Rd enc Try.prog w 25 (([c0, c1, c2, c3, c4, c5, c6, c7, c8].drop 6).take (Try.prog.cellsOf 25)) := hf 6 _ rfl
    rw [cells3] at f0 f1 f2 f3
    rw [cells21] at f4
    rw [cells4] at f5
    rw [cells25] at f6
    obtain ⟨i0, e0, _⟩ := rd_int Try.underlying3 f0
    obtain ⟨i1, e1, _⟩ := rd_int Try.underlying3 f1
    obtain ⟨i2, e2, _⟩ := rd_int Try.underlying3 f2
    obtain ⟨i3, e3, _⟩ := rd_int Try.underlying3 f3
    obtain ⟨i4, e4, _⟩ := rd_int Try.underlying21 f4
    obtain ⟨b0, e5⟩ := rd_bool Try.underlying4 f5
    obtain ⟨⟨fg, bg, fl⟩, e6⟩ := rd_at f6
    simp at e0 e1 e2 e3 e4 e5 e6
    obtain ⟨e6, e7, e8⟩ := e6
    subst e0 e1 e2 e3 e4 e5 e6 e7 e8
    exact ⟨⟨i0, i1, i2, i3, i4, b0, ⟨fg, bg, fl⟩⟩, rfl⟩
theorem sr_ops {a : Option Addr} {n c : Nat} (h : Rd enc Try.prog w 56 [.slice a n c]) : ∃ l : List Op, ∀ (W : World) (H : List HProp), SR 9 W (old w :: H) a n c (l.map opL) := by
  obtain ⟨L, h1, h2, h3, h4, h5⟩ := rd_slice Try.underlying56 cells43 (by decide) h
  obtain ⟨l, hl⟩ := rd_map (f := opL) (fun cs hc => rd_op (h4 cs hc))
  refine ⟨l, fun W H => ?_⟩
  rw [hl] at h1 h5
  exact h5.sr h1 h2 h3 W H
theorem plays_top (a0 a1 a2 : Int) (b3 : Bool) (a4 : Option Addr) (n4 c4 : Nat) (w : World) (_ : (Lit.int .i64 a0).wf = true) (_ : (Lit.int .i64 a1).wf = true) (_ : (Lit.int .i64 a2).wf = true) (r4 : Rd enc Try.prog w 56 [.slice a4 n4 c4]) :
    Calls Try.prog 6 #[.int .i64 a0, .int .i64 a1, .int .i64 a2, .bool b3, .slice a4 n4 c4] w fun e w' => e = .returned (.bool true) ∧ Below w.heap.size w w' := by
  obtain ⟨l, hl⟩ := sr_ops r4
  exact (plays6 (hl w []) (sat.start w)).mono fun _ _ ⟨he, hs⟩ => ⟨he, hs.below⟩
end
end Go.Proofs.Ytdcagaaanbgcoaa
