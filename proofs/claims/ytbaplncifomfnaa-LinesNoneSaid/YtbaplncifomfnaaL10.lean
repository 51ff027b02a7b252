/- Law 8: arguments; LinesNone, of any argument. -/
import Derived.Test.YtbaplncifomfnaaL9
namespace Go.Proofs.Ytbaplncifomfnaa
open Go.RowKit Go.Mem Go.Cells
attribute [local irreducible] rowTy oneTy World.setCell World.setCells World.alloc World.drew World.drewN Calls sat cel own blk old wpQuiet wpList cmb cmb1 rwP cls rws wi wh fst_ World.rangeAt lrw lnP stP lsP dsP lvs NR lnN lnQ
section
variable {E : Type} {enc : TypeId × Value → E} {w : World}
theorem cells35 : Try.prog.cellsOf 35 = 3 := by kernel_rfl
theorem cells32 : Try.prog.cellsOf 32 = 1 := by kernel_rfl
theorem cells33 : Try.prog.cellsOf 33 = 1 := by kernel_rfl
set_option maxRecDepth 8000 in
theorem rd_at {cs : List Value} (h : Rd enc Try.prog w 35 cs) : ∃ a : At, cs = aC a := by
  obtain ⟨hl, hf⟩ := rd_struct Try.underlying35 h
  rw [cells35] at hl
  match cs, hl with
  | [c0, c1, c2], _ =>
    have f0 : Rd enc Try.prog w 32 (([c0, c1, c2].drop 0).take (Try.prog.cellsOf 32)) := hf 0 _ rfl
    have f1 : Rd enc Try.prog w 32 (([c0, c1, c2].drop 1).take (Try.prog.cellsOf 32)) := hf 1 _ rfl
    have f2 : Rd enc Try.prog w 33 (([c0, c1, c2].drop 2).take (Try.prog.cellsOf 33)) := hf 2 _ rfl
    rw [cells32] at f0 f1
    rw [cells33] at f2
    obtain ⟨i0, e0, _⟩ := rd_int Try.underlying32 f0
    obtain ⟨i1, e1, _⟩ := rd_int Try.underlying32 f1
    obtain ⟨i2, e2, _⟩ := rd_int Try.underlying33 f2
    simp at e0 e1 e2
    subst e0 e1 e2
    exact ⟨⟨i0, i1, i2⟩, rfl⟩
theorem none_top (a0 : Int) (cs : Array Value) (w : World) (_ : (Lit.int .i64 a0).wf = true) (r1 : Rd enc Try.prog w 35 cs.toList) :
    Calls Try.prog 4 #[.int .i64 a0, .agg cs] w fun e w' => e = .returned (.bool true) ∧ Below w.heap.size w w' := by
  obtain ⟨⟨fg, bg, fl⟩, ho⟩ := rd_at r1
  have ha : cs = #[.int .u32 fg, .int .u32 bg, .int .u16 fl] := Array.toList_inj.1 ho
  subst ha
  exact (none4 (n := a0) (a := ⟨fg, bg, fl⟩) (sat.start w)).mono fun _ _ ⟨he, hs⟩ => ⟨he, hs.below⟩
end
end Go.Proofs.Ytbaplncifomfnaa
