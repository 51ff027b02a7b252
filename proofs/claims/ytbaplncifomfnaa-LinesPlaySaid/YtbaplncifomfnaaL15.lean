/- Law 8: LinesPlay, of any argument. -/
import Derived.Test.YtbaplncifomfnaaL14
namespace Go.Proofs.Ytbaplncifomfnaa
open Go.RowKit Go.Mem Go.Cells
attribute [local irreducible] rowTy oneTy World.setCell World.setCells World.alloc World.drew World.drewN Calls sat cel own blk old wpQuiet wpList cmb cmb1 rwP cls rws wi wh fst_ World.rangeAt lrw lnP stP lsP dsP lvs lnN lnQ
section
variable {E : Type} {enc : TypeId × Value → E} {w : World}
theorem cells35 : Try.prog.cellsOf 35 = 3 := by kernel_rfl
theorem cells32 : Try.prog.cellsOf 32 = 1 := by kernel_rfl
theorem cells33 : Try.prog.cellsOf 33 = 1 := by kernel_rfl
theorem cells60 : Try.prog.cellsOf 60 = 6 := by kernel_rfl
theorem cells3 : Try.prog.cellsOf 3 = 1 := by kernel_rfl
theorem cells21 : Try.prog.cellsOf 21 = 1 := by kernel_rfl
set_option maxRecDepth 8000 in
theorem rd_at {cs : List Value} (h : Rd enc Try.prog w 35 cs) : ∃ a : At, cs = aC a := by
  obtain ⟨hl, hf⟩ := rd_struct Try.underlying35 h
  rw [cells35] at hl
  match cs, hl with
  | [c0, c1, c2], _ =>
    have f0 : Rd enc Try.prog w 32 (([c0, c1, c2].drop 0).take (Try.prog.cellsOf 32)) := hf 0 _ rfl
    have f1 : Rd enc Try.prog w 32 (([c0, c1, c2].drop 1).take (Try.prog.cellsOf 32)) := hf 1 _ rfl
    have f2 : Rd enc Try.prog w 33 (([c0, c1, c2].drop 2).take (Try.prog.cellsOf 33)) := hf 2 _ rfl
    rw [cells32] at f0 f1
    rw [cells33] at f2
    obtain ⟨i0, e0, _⟩ := rd_int Try.underlying32 f0
    obtain ⟨i1, e1, _⟩ := rd_int Try.underlying32 f1
    obtain ⟨i2, e2, _⟩ := rd_int Try.underlying33 f2
    simp at e0 e1 e2
    subst e0 e1 e2
    exact ⟨⟨i0, i1, i2⟩, rfl⟩
set_option maxRecDepth 8000 in
theorem rd_op {cs : List Value} (h : Rd enc Try.prog w 60 cs) : ∃ o : Op, cs = opL o := by
  obtain ⟨hl, hf⟩ := rd_struct Try.underlying60 h
  rw [cells60] at hl
  match cs, hl with
  | [c0, c1, c2, c3, c4, c5], _ =>
    have f0 : Rd enc Try.prog w 3 (([c0, c1, c2, c3, c4, c5].drop 0).take (Try.prog.cellsOf 3)) := hf 0 _ rfl
    have f1 : Rd enc Try.prog w 3 (([c0, c1, c2, c3, c4, c5].drop 1).take (Try.prog.cellsOf 3)) := hf 1 _ rfl
    have f2 : Rd enc Try.prog w 21 (([c0, c1, c2, c3, c4, c5].drop 2).take (Try.prog.cellsOf 21)) := hf 2 _ rfl
    have f3 : Rd enc Try.prog w 35 (([c0, c1, c2, c3, c4, c5].drop 3).take (Try.prog.cellsOf 35)) := hf 3 _ rfl
    rw [cells3] at f0 f1
    rw [cells21] at f2
    rw [cells35] at f3
    obtain ⟨i0, e0, _⟩ := rd_int Try.underlying3 f0
    obtain ⟨i1, e1, _⟩ := rd_int Try.underlying3 f1
    obtain ⟨i2, e2, _⟩ := rd_int Try.underlying21 f2
    obtain ⟨⟨fg, bg, fl⟩, e3⟩ := rd_at f3
    simp at e0 e1 e2 e3
    obtain ⟨e3, e4, e5⟩ := e3
    subst e0 e1 e2 e3 e4 e5
    exact ⟨⟨i0, i1, i2, ⟨fg, bg, fl⟩⟩, rfl⟩
theorem sr_ops {a : Option Addr} {n c : Nat} (h : Rd enc Try.prog w 54 [.slice a n c]) : ∃ l : List Op, ∀ (W : World) (H : List HProp), SR 6 W (old w :: H) a n c (l.map opL) := by
  obtain ⟨L, h1, h2, h3, h4, h5⟩ := rd_slice Try.underlying54 cells60 (by decide) h
  obtain ⟨l, hl⟩ := rd_map (f := opL) (fun cs hc => rd_op (h4 cs hc))
  refine ⟨l, fun W H => ?_⟩
  rw [hl] at h1 h5
  exact h5.sr h1 h2 h3 W H
theorem play_top (a0 : Int) (a1 : Option Addr) (n1 c1 : Nat) (w : World) (_ : (Lit.int .i64 a0).wf = true) (r1 : Rd enc Try.prog w 54 [.slice a1 n1 c1]) :
    Calls Try.prog 5 #[.int .i64 a0, .slice a1 n1 c1] w fun e w' => e = .returned (.bool true) ∧ Below w.heap.size w w' := by
  obtain ⟨l, hl⟩ := sr_ops r1
  by_cases h : 0 ≤ a0 ∧ a0 ≤ 10000
  · obtain ⟨m0, rfl⟩ : ∃ m0 : Nat, a0 = (m0 : Int) := ⟨a0.toNat, by omega⟩
    by_cases h2 : 60 < n1 ∨ 30 < m0
    · exact (play5_big (by omega) h2 (sat.start w)).mono fun _ _ ⟨he, hs⟩ => ⟨he, hs.below⟩
    · exact (play5_go (by omega) (by omega) (hl w []) (sat.start w)).mono fun _ _ ⟨he, hs⟩ => ⟨he, hs.below⟩
  · exact (play5_no h (sat.start w)).mono fun _ _ ⟨he, hs⟩ => ⟨he, hs.below⟩
end
end Go.Proofs.Ytbaplncifomfnaa
