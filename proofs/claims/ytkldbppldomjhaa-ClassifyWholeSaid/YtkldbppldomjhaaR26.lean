/- Law 16: ClassifyWhole, of any argument. -/
import Derived.Test.YtkldbppldomjhaaR25
import Derived.Test.YtkldbppldomjhaaR22
namespace Go.Proofs.Ytkldbppldomjhaa
open Go.RowKit Go.Mem Go.Typed Go.Front Go.Classify
section
variable {E : Type} {enc : TypeId × Value → E} {w : World}
theorem cells33 : Try.prog.cellsOf 33 = 10 := by kernel_rfl
theorem cells3 : Try.prog.cellsOf 3 = 1 := by kernel_rfl
theorem cells4 : Try.prog.cellsOf 4 = 1 := by kernel_rfl
theorem cells5 : Try.prog.cellsOf 5 = 1 := by kernel_rfl
theorem cells31 : Try.prog.cellsOf 31 = 1 := by kernel_rfl
theorem rd_ev {cs : List Value} (h : Rd enc Try.prog w 33 cs) : ∃ e : Ev, cs = evL e ∧ wfE e := by
  obtain ⟨hl, hf⟩ := rd_struct Try.underlying33 h
  rw [cells33] at hl
  match cs, hl with
  | [c0, c1, c2, c3, c4, c5, c6, c7, c8, c9], _ =>
    have f0 : Rd enc Try.prog w 5 (([c0, c1, c2, c3, c4, c5, c6, c7, c8, c9].drop 0).take (Try.prog.cellsOf 5)) := hf 0 _ rfl
    rw [cells5] at f0
    have f1 : Rd enc Try.prog w 31 (([c0, c1, c2, c3, c4, c5, c6, c7, c8, c9].drop 1).take (Try.prog.cellsOf 31)) := hf 1 _ rfl
    rw [cells31] at f1
    have f2 : Rd enc Try.prog w 3 (([c0, c1, c2, c3, c4, c5, c6, c7, c8, c9].drop 2).take (Try.prog.cellsOf 3)) := hf 2 _ rfl
    rw [cells3] at f2
    have f3 : Rd enc Try.prog w 3 (([c0, c1, c2, c3, c4, c5, c6, c7, c8, c9].drop 3).take (Try.prog.cellsOf 3)) := hf 3 _ rfl
    rw [cells3] at f3
    have f4 : Rd enc Try.prog w 4 (([c0, c1, c2, c3, c4, c5, c6, c7, c8, c9].drop 4).take (Try.prog.cellsOf 4)) := hf 4 _ rfl
    rw [cells4] at f4
    have f5 : Rd enc Try.prog w 21 (([c0, c1, c2, c3, c4, c5, c6, c7, c8, c9].drop 5).take (Try.prog.cellsOf 21)) := hf 5 _ rfl
    rw [cells21] at f5
    have f6 : Rd enc Try.prog w 4 (([c0, c1, c2, c3, c4, c5, c6, c7, c8, c9].drop 6).take (Try.prog.cellsOf 4)) := hf 6 _ rfl
    rw [cells4] at f6
    have f7 : Rd enc Try.prog w 4 (([c0, c1, c2, c3, c4, c5, c6, c7, c8, c9].drop 7).take (Try.prog.cellsOf 4)) := hf 7 _ rfl
    rw [cells4] at f7
    have f8 : Rd enc Try.prog w 4 (([c0, c1, c2, c3, c4, c5, c6, c7, c8, c9].drop 8).take (Try.prog.cellsOf 4)) := hf 8 _ rfl
    rw [cells4] at f8
    have f9 : Rd enc Try.prog w 4 (([c0, c1, c2, c3, c4, c5, c6, c7, c8, c9].drop 9).take (Try.prog.cellsOf 4)) := hf 9 _ rfl
    rw [cells4] at f9
    obtain ⟨k, e0, hw⟩ := rd_int Try.underlying5 f0
    obtain ⟨i0, e1, _⟩ := rd_int Try.underlying31 f1
    obtain ⟨i1, e2, _⟩ := rd_int Try.underlying3 f2
    obtain ⟨i2, e3, _⟩ := rd_int Try.underlying3 f3
    obtain ⟨b0, e4⟩ := rd_bool Try.underlying4 f4
    obtain ⟨i3, e5, _⟩ := rd_int Try.underlying21 f5
    obtain ⟨b1, e6⟩ := rd_bool Try.underlying4 f6
    obtain ⟨b2, e7⟩ := rd_bool Try.underlying4 f7
    obtain ⟨b3, e8⟩ := rd_bool Try.underlying4 f8
    obtain ⟨b4, e9⟩ := rd_bool Try.underlying4 f9
    simp at e0 e1 e2 e3 e4 e5 e6 e7 e8 e9
    subst e0 e1 e2 e3 e4 e5 e6 e7 e8 e9
    refine ⟨⟨k, i0, i1, i2, b0, i3, b1, b2, b3, b4⟩, rfl, ?_⟩
    simp [Lit.wf, IntKind.min, IntKind.max, IntKind.signed, IntKind.bits] at hw
    exact ⟨by simp only; omega, by simp only; omega⟩
theorem sr_evs {a : Option Addr} {n c : Nat} (h : Rd enc Try.prog w 23 [.slice a n c]) : ∃ l : List Ev, (∀ e ∈ l, wfE e) ∧ ∀ (W : World) (H : List HProp), SR 10 W (old w :: H) a n c (l.map evL) := by
  obtain ⟨L, h1, h2, h3, h4, h5⟩ := rd_slice Try.underlying23 cells33 (by decide) h
  have h6 : ∀ cs ∈ L, ∃ x : {e : Ev // wfE e}, cs = evL x.1 := fun cs hc => by
    obtain ⟨e, he, hw⟩ := rd_ev (h4 cs hc)
    exact ⟨⟨e, hw⟩, he⟩
  obtain ⟨l, hl⟩ := rd_map (f := fun x : {e : Ev // wfE e} => evL x.1) h6
  refine ⟨l.map (·.1), fun e he => ?_, fun W H => ?_⟩
  · obtain ⟨x, _, rfl⟩ := List.mem_map.1 he
    exact x.2
  · rw [List.map_map]
    rw [hl] at h1 h5
    exact h5.sr h1 h2 h3 W H
theorem whole_top (a0 : Int) (a1 : Int) (a2 : Int) (a3 : Option Addr) (n3 c3 : Nat) (a4 : Int) (w : World) (_ : (Lit.int .i64 a0).wf = true) (_ : (Lit.int .i64 a1).wf = true) (w2 : (Lit.int .u32 a2).wf = true) (r3 : Rd enc Try.prog w 23 [.slice a3 n3 c3]) (_ : (Lit.int .i64 a4).wf = true) :
    Calls Try.prog 3 #[.int .i64 a0, .int .i64 a1, .int .u32 a2, .slice a3 n3 c3, .int .i64 a4] w fun e w' => e = .returned (.bool true) ∧ Below w.heap.size w w' := by
  obtain ⟨l, hw, hl⟩ := sr_evs r3
  simp [Lit.wf, IntKind.min, IntKind.max, IntKind.signed, IntKind.bits] at w2
  by_cases h : a0 < 1 ∨ 1000 < a0 ∨ a1 < 1 ∨ 1000 < a1
  · exact (bad3 h (sat.start w)).mono fun _ _ ⟨he, hs⟩ => ⟨he, hs.below⟩
  · by_cases h2 : 1000 < n3 ∨ a4 < 0 ∨ 1000 < a4
    · exact (long3 (by omega) (by omega) h2 (sat.start w)).mono fun _ _ ⟨he, hs⟩ => ⟨he, hs.below⟩
    · exact (whole3 (by omega) (by omega) (by omega) (by omega) (by omega) (by omega) hw (hl w []) (sat.start w)).mono fun _ _ ⟨he, hs⟩ => ⟨he, hs.below⟩
end
end Go.Proofs.Ytkldbppldomjhaa
