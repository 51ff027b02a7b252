/- Law 18: the arguments' readings; QueueNone, as it is said. -/
import Derived.Test.YtinfgebdcjaabaaQ15
namespace Go.Proofs.Ytinfgebdcjaabaa
open Go.RowKit Go.Mem Go.Queue
variable {W w : World} {H : List HProp}
section
variable {E : Type} {enc : TypeId × Value → E}
theorem cells2 : Try.prog.cellsOf 2 = 1 := by kernel_rfl
theorem cells3 : Try.prog.cellsOf 3 = 1 := by kernel_rfl
theorem cells4 : Try.prog.cellsOf 4 = 1 := by kernel_rfl
theorem cells5 : Try.prog.cellsOf 5 = 1 := by kernel_rfl
theorem cells9 : Try.prog.cellsOf 9 = 1 := by kernel_rfl
theorem cells23 : Try.prog.cellsOf 23 = 1 := by kernel_rfl
theorem cells25 : Try.prog.cellsOf 25 = 5 := by kernel_rfl
theorem cells33 : Try.prog.cellsOf 33 = 8 := by kernel_rfl
def wfUt (u : Ut) : Prop := (Lit.int .i64 u.num).wf = true ∧ u.text.size ≤ maxLen ∧ (Lit.int .u64 u.fr).wf = true ∧ (Lit.int .u64 u.to_).wf = true ∧ (Lit.int .u8 u.pr).wf = true
def wfOp (o : Op) : Prop := (Lit.int .i64 o.n).wf = true ∧ wfUt o.u
theorem rd_ut {cs : List Value} (h : Rd enc Try.prog w 25 cs) : ∃ o : Ut, cs = utC o ∧ wfUt o := by
  obtain ⟨hl, hf⟩ := rd_struct Try.underlying25 h
  rw [cells25] at hl
  match cs, hl with
  | [c0, c1, c2, c3, c4], _ =>
    have f0 : Rd enc Try.prog w 2 (([c0, c1, c2, c3, c4].drop 0).take (Try.prog.cellsOf 2)) := hf 0 _ rfl
    rw [cells2] at f0
    have f1 : Rd enc Try.prog w 9 (([c0, c1, c2, c3, c4].drop 1).take (Try.prog.cellsOf 9)) := hf 1 _ rfl
    rw [cells9] at f1
    have f2 : Rd enc Try.prog w 23 (([c0, c1, c2, c3, c4].drop 2).take (Try.prog.cellsOf 23)) := hf 2 _ rfl
    rw [cells23] at f2
    have f3 : Rd enc Try.prog w 23 (([c0, c1, c2, c3, c4].drop 3).take (Try.prog.cellsOf 23)) := hf 3 _ rfl
    rw [cells23] at f3
    have f4 : Rd enc Try.prog w 5 (([c0, c1, c2, c3, c4].drop 4).take (Try.prog.cellsOf 5)) := hf 4 _ rfl
    rw [cells5] at f4
    obtain ⟨v0, e0, w0⟩ := rd_int Try.underlying2 f0
    obtain ⟨v1, e1, w1⟩ := rd_string Try.underlying9 f1
    obtain ⟨v2, e2, w2⟩ := rd_int Try.underlying23 f2
    obtain ⟨v3, e3, w3⟩ := rd_int Try.underlying23 f3
    obtain ⟨v4, e4, w4⟩ := rd_int Try.underlying5 f4
    simp only [List.drop_succ_cons, List.drop_zero, List.take_succ_cons, List.take_zero, List.cons.injEq, and_true] at e0 e1 e2 e3 e4
    exact ⟨⟨v0, v1, v2, v3, v4⟩, by simp [*], w0, w1, w2, w3, w4⟩
theorem rd_op {cs : List Value} (h : Rd enc Try.prog w 33 cs) : ∃ o : Op, cs = opC o ∧ wfOp o := by
  obtain ⟨hl, hf⟩ := rd_struct Try.underlying33 h
  rw [cells33] at hl
  match cs, hl with
  | [c0, c1, c2, c3, c4, c5, c6, c7], _ =>
    have f0 : Rd enc Try.prog w 3 (([c0, c1, c2, c3, c4, c5, c6, c7].drop 0).take (Try.prog.cellsOf 3)) := hf 0 _ rfl
    rw [cells3] at f0
    have f1 : Rd enc Try.prog w 3 (([c0, c1, c2, c3, c4, c5, c6, c7].drop 1).take (Try.prog.cellsOf 3)) := hf 1 _ rfl
    rw [cells3] at f1
    have f2 : Rd enc Try.prog w 25 (([c0, c1, c2, c3, c4, c5, c6, c7].drop 2).take (Try.prog.cellsOf 25)) := hf 2 _ rfl
    rw [cells25] at f2
    have f3 : Rd enc Try.prog w 4 (([c0, c1, c2, c3, c4, c5, c6, c7].drop 7).take (Try.prog.cellsOf 4)) := hf 3 _ rfl
    rw [cells4] at f3
    obtain ⟨v0, e0, w0⟩ := rd_int Try.underlying3 f0
    obtain ⟨v1, e1, w1⟩ := rd_int Try.underlying3 f1
    obtain ⟨v2, e2, w2⟩ := rd_ut f2
    obtain ⟨v3, e3⟩ := rd_bool Try.underlying4 f3
    simp only [List.drop_succ_cons, List.drop_zero, List.take_succ_cons, List.take_zero, List.cons.injEq, and_true] at e0 e1 e2 e3
    exact ⟨⟨v0, v1, v2, v3⟩, by simp [*], w1, w2⟩
theorem none_said (cs : Array Value) (w : World) (h : Rd enc Try.prog w 33 cs.toList) : Calls Try.prog 6 #[.agg cs] w fun e w' => e = .returned (.bool true) ∧ Below w.heap.size w w' := by
  obtain ⟨o, e, _⟩ := rd_op h
  have e : cs = (opC o).toArray := by rw [← e]
  rw [e]
  exact (none6 o (sat.start w)).mono fun e w' ⟨he, hs⟩ => ⟨he, hs.below⟩
end
end Go.Proofs.Ytinfgebdcjaabaa
