/- Law 9: ScreenNone, of any argument. -/
import Derived.Test.YtdcagaaanbgcoaaS15
import Derived.Test.YtdcagaaanbgcoaaS16
namespace Go.Proofs.Ytdcagaaanbgcoaa
open Go.RowKit Go.Mem Go.Cells Go.Lines
section
variable {E : Type} {enc : TypeId × Value → E} {w : World}
theorem cells43 : Try.prog.cellsOf 43 = 9 := by kernel_rfl
theorem cells3 : Try.prog.cellsOf 3 = 1 := by kernel_rfl
theorem cells4 : Try.prog.cellsOf 4 = 1 := by kernel_rfl
theorem cells21 : Try.prog.cellsOf 21 = 1 := by kernel_rfl
/-- A call: its nine cells. -/
structure Op where
  kind : Int
  at2 : Int
  n : Int
  cols : Int
  r : Int
  wide : Bool
  a : At
def opL (o : Op) : List Value := [.int .i64 o.kind, .int .i64 o.at2, .int .i64 o.n, .int .i64 o.cols, .int .i32 o.r, .bool o.wide, .int .u32 o.a.fg, .int .u32 o.a.bg, .int .u16 o.a.fl]
set_option maxRecDepth 8000 in
theorem rd_op {cs : List Value} (h : Rd enc Try.prog w 43 cs) : ∃ o : Op, cs = opL o := by
  obtain ⟨hl, hf⟩ := rd_struct Try.underlying43 h
  rw [cells43] at hl
  match cs, hl with
  | [c0, c1, c2, c3, c4, c5, c6, c7, c8], _ =>
    have f0 : Rd enc Try.prog w 3 (([c0, c1, c2, c3, c4, c5, c6, c7, c8].drop 0).take (Try.prog.cellsOf 3)) := hf 0 _ rfl
    have f1 : Rd enc Try.prog w 3 (([c0, c1, c2, c3, c4, c5, c6, c7, c8].drop 1).take (Try.prog.cellsOf 3)) := hf 1 _ rfl
    have f2 : Rd enc Try.prog w 3 (([c0, c1, c2, c3, c4, c5, c6, c7, c8].drop 2).take (Try.prog.cellsOf 3)) := hf 2 _ rfl
    have f3 : Rd enc Try.prog w 3 (([c0, c1, c2, c3, c4, c5, c6, c7, c8].drop 3).take (Try.prog.cellsOf 3)) := hf 3 _ rfl
    have f4 : Rd enc Try.prog w 21 (([c0, c1, c2, c3, c4, c5, c6, c7, c8].drop 4).take (Try.prog.cellsOf 21)) := hf 4 _ rfl
    have f5 : Rd enc Try.prog w 4 (([c0, c1, c2, c3, c4, c5, c6, c7, c8].drop 5).take (Try.prog.cellsOf 4)) := hf 5 _ rfl
    have f6 : Rd enc Try.prog w 25 (([c0, c1, c2, c3, c4, c5, c6, c7, c8].drop 6).take (Try.prog.cellsOf 25)) := hf 6 _ rfl
    rw [cells3] at f0 f1 f2 f3
    rw [cells21] at f4
    rw [cells4] at f5
    rw [cells25] at f6
    obtain ⟨i0, e0, _⟩ := rd_int Try.underlying3 f0
    obtain ⟨i1, e1, _⟩ := rd_int Try.underlying3 f1
    obtain ⟨i2, e2, _⟩ := rd_int Try.underlying3 f2
    obtain ⟨i3, e3, _⟩ := rd_int Try.underlying3 f3
    obtain ⟨i4, e4, _⟩ := rd_int Try.underlying21 f4
    obtain ⟨b0, e5⟩ := rd_bool Try.underlying4 f5
    obtain ⟨⟨fg, bg, fl⟩, e6⟩ := rd_at f6
    simp at e0 e1 e2 e3 e4 e5 e6
    obtain ⟨e6, e7, e8⟩ := e6
    subst e0 e1 e2 e3 e4 e5 e6 e7 e8
    exact ⟨⟨i0, i1, i2, i3, i4, b0, ⟨fg, bg, fl⟩⟩, rfl⟩
theorem none_top (cs : Array Value) (w : World) (r0 : Rd enc Try.prog w 43 cs.toList) :
    Calls Try.prog 4 #[.agg cs] w fun e w' => e = .returned (.bool true) ∧ Below w.heap.size w w' := by
  obtain ⟨⟨kind, at2, n, cols, r, wide, ⟨fg, bg, fl⟩⟩, ho⟩ := rd_op r0
  have ha : cs = #[.int .i64 kind, .int .i64 at2, .int .i64 n, .int .i64 cols, .int .i32 r, .bool wide, .int .u32 fg, .int .u32 bg, .int .u16 fl] := Array.toList_inj.1 ho
  subst ha
  exact (none4 (sat.start w)).mono fun _ _ ⟨he, hs⟩ => ⟨he, hs.below⟩
end
end Go.Proofs.Ytdcagaaanbgcoaa
