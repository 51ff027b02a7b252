/- Law 9: arguments; ScreenBack, of any argument. -/
import Derived.Test.YtdcagaaanbgcoaaS13
import Derived.Test.YtdcagaaanbgcoaaSs
namespace Go.Proofs.Ytdcagaaanbgcoaa
open Go.RowKit Go.Mem Go.Cells Go.Lines
section
variable {E : Type} {enc : TypeId × Value → E} {w : World}
theorem cells25 : Try.prog.cellsOf 25 = 3 := by kernel_rfl
theorem cells22 : Try.prog.cellsOf 22 = 1 := by kernel_rfl
theorem cells23 : Try.prog.cellsOf 23 = 1 := by kernel_rfl
set_option maxRecDepth 8000 in
theorem rd_at {cs : List Value} (h : Rd enc Try.prog w 25 cs) : ∃ a : At, cs = aC a := by
  obtain ⟨hl, hf⟩ := rd_struct Try.underlying25 h
  rw [cells25] at hl
  match cs, hl with
  | [c0, c1, c2], _ =>
    have f0 : Rd enc Try.prog w 22 (([c0, c1, c2].drop 0).take (Try.prog.cellsOf 22)) := hf 0 _ rfl
    have f1 : Rd enc Try.prog w 22 (([c0, c1, c2].drop 1).take (Try.prog.cellsOf 22)) := hf 1 _ rfl
    have f2 : Rd enc Try.prog w 23 (([c0, c1, c2].drop 2).take (Try.prog.cellsOf 23)) := hf 2 _ rfl
    rw [cells22] at f0 f1
    rw [cells23] at f2
    obtain ⟨i0, e0, _⟩ := rd_int Try.underlying22 f0
    obtain ⟨i1, e1, _⟩ := rd_int Try.underlying22 f1
    obtain ⟨i2, e2, _⟩ := rd_int Try.underlying23 f2
    simp at e0 e1 e2
    subst e0 e1 e2
    exact ⟨⟨i0, i1, i2⟩, rfl⟩
theorem back_top (a0 a1 a2 a3 a4 a5 : Int) (cs : Array Value) (w : World) (_ : (Lit.int .i64 a0).wf = true) (_ : (Lit.int .i64 a1).wf = true) (_ : (Lit.int .i64 a2).wf = true) (_ : (Lit.int .i64 a3).wf = true) (_ : (Lit.int .i64 a4).wf = true) (_ : (Lit.int .i64 a5).wf = true) (r6 : Rd enc Try.prog w 25 cs.toList) :
    Calls Try.prog 3 #[.int .i64 a0, .int .i64 a1, .int .i64 a2, .int .i64 a3, .int .i64 a4, .int .i64 a5, .agg cs] w fun e w' => e = .returned (.bool true) ∧ Below w.heap.size w w' := by
  obtain ⟨⟨fg, bg, fl⟩, ho⟩ := rd_at r6
  have ha : cs = #[.int .u32 fg, .int .u32 bg, .int .u16 fl] := Array.toList_inj.1 ho
  subst ha
  exact (back3 (a := ⟨fg, bg, fl⟩) (sat.start w)).mono fun _ _ ⟨he, hs⟩ => ⟨he, hs.below⟩
end
end Go.Proofs.Ytdcagaaanbgcoaa
