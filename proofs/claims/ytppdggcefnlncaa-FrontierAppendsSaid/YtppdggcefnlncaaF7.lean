import Derived.Test.YtppdggcefnlncaaF6
import Derived.Below
namespace Go.Proofs.Ytppdggcefnlncaa
open Go.RowKit Go.Mem Go.Front
variable {W w : World} {H : List HProp}
section
variable {E : Type} {enc : TypeId × Value → E}
theorem cells21 : Try.prog.cellsOf 21 = 1 := by kernel_rfl
theorem cells29 : Try.prog.cellsOf 29 = 10 := by kernel_rfl
theorem cells3 : Try.prog.cellsOf 3 = 1 := by kernel_rfl
theorem cells4 : Try.prog.cellsOf 4 = 1 := by kernel_rfl
theorem cells5 : Try.prog.cellsOf 5 = 1 := by kernel_rfl
theorem cells27 : Try.prog.cellsOf 27 = 1 := by kernel_rfl
theorem rd_ev {cs : List Value} (h : Rd enc Try.prog w 29 cs) : ∃ e : Ev, cs = evL e ∧ wfE e := by
  obtain ⟨hl, hf⟩ := rd_struct Try.underlying29 h
  rw [cells29] at hl
  match cs, hl with
  | [c0, c1, c2, c3, c4, c5, c6, c7, c8, c9], _ =>
    have f0 : Rd enc Try.prog w 5 (([c0, c1, c2, c3, c4, c5, c6, c7, c8, c9].drop 0).take (Try.prog.cellsOf 5)) := hf 0 _ rfl
    rw [cells5] at f0
    have f1 : Rd enc Try.prog w 27 (([c0, c1, c2, c3, c4, c5, c6, c7, c8, c9].drop 1).take (Try.prog.cellsOf 27)) := hf 1 _ rfl
    rw [cells27] at f1
    have f2 : Rd enc Try.prog w 3 (([c0, c1, c2, c3, c4, c5, c6, c7, c8, c9].drop 2).take (Try.prog.cellsOf 3)) := hf 2 _ rfl
    rw [cells3] at f2
    have f3 : Rd enc Try.prog w 3 (([c0, c1, c2, c3, c4, c5, c6, c7, c8, c9].drop 3).take (Try.prog.cellsOf 3)) := hf 3 _ rfl
    rw [cells3] at f3
    have f4 : Rd enc Try.prog w 4 (([c0, c1, c2, c3, c4, c5, c6, c7, c8, c9].drop 4).take (Try.prog.cellsOf 4)) := hf 4 _ rfl
    rw [cells4] at f4
    have f5 : Rd enc Try.prog w 21 (([c0, c1, c2, c3, c4, c5, c6, c7, c8, c9].drop 5).take (Try.prog.cellsOf 21)) := hf 5 _ rfl
    rw [cells21] at f5
    have f6 : Rd enc Try.prog w 4 (([c0, c1, c2, c3, c4, c5, c6, c7, c8, c9].drop 6).take (Try.prog.cellsOf 4)) := hf 6 _ rfl
    rw [cells4] at f6
    have f7 : Rd enc Try.prog w 4 (([c0, c1, c2, c3, c4, c5, c6, c7, c8, c9].drop 7).take (Try.prog.cellsOf 4)) := hf 7 _ rfl
    rw [cells4] at f7
    have f8 : Rd enc Try.prog w 4 (([c0, c1, c2, c3, c4, c5, c6, c7, c8, c9].drop 8).take (Try.prog.cellsOf 4)) := hf 8 _ rfl
    rw [cells4] at f8
    have f9 : Rd enc Try.prog w 4 (([c0, c1, c2, c3, c4, c5, c6, c7, c8, c9].drop 9).take (Try.prog.cellsOf 4)) := hf 9 _ rfl
    rw [cells4] at f9
    obtain ⟨k, e0, hw⟩ := rd_int Try.underlying5 f0
    obtain ⟨i0, e1, _⟩ := rd_int Try.underlying27 f1
    obtain ⟨i1, e2, _⟩ := rd_int Try.underlying3 f2
    obtain ⟨i2, e3, _⟩ := rd_int Try.underlying3 f3
    obtain ⟨b0, e4⟩ := rd_bool Try.underlying4 f4
    obtain ⟨i3, e5, _⟩ := rd_int Try.underlying21 f5
    obtain ⟨b1, e6⟩ := rd_bool Try.underlying4 f6
    obtain ⟨b2, e7⟩ := rd_bool Try.underlying4 f7
    obtain ⟨b3, e8⟩ := rd_bool Try.underlying4 f8
    obtain ⟨b4, e9⟩ := rd_bool Try.underlying4 f9
    simp at e0 e1 e2 e3 e4 e5 e6 e7 e8 e9
    subst e0 e1 e2 e3 e4 e5 e6 e7 e8 e9
    refine ⟨⟨k, i0, i1, i2, b0, i3, b1, b2, b3, b4⟩, rfl, ?_⟩
    simp [Lit.wf, IntKind.min, IntKind.max, IntKind.signed, IntKind.bits] at hw
    exact ⟨by simp only; omega, by simp only; omega⟩
theorem sr_evs {a : Option Addr} {n c : Nat} (h : Rd enc Try.prog w 22 [.slice a n c]) : ∃ l : List Ev, (∀ e ∈ l, wfE e) ∧ ∀ (W : World) (H : List HProp), SR 10 W (old w :: H) a n c (l.map evL) := by
  obtain ⟨L, h1, h2, h3, h4, h5⟩ := rd_slice Try.underlying22 cells29 (by decide) h
  have h6 : ∀ cs ∈ L, ∃ x : {e : Ev // wfE e}, cs = evL x.1 := fun cs hc => by
    obtain ⟨e, he, hw⟩ := rd_ev (h4 cs hc)
    exact ⟨⟨e, hw⟩, he⟩
  obtain ⟨l, hl⟩ := rd_map (f := fun x : {e : Ev // wfE e} => evL x.1) h6
  refine ⟨l.map (·.1), fun e he => ?_, fun W H => ?_⟩
  · obtain ⟨x, _, rfl⟩ := List.mem_map.1 he
    exact x.2
  · rw [List.map_map]
    rw [hl] at h1 h5
    exact h5.sr h1 h2 h3 W H
theorem sr_bools {a : Option Addr} {n c : Nat} (h : Rd enc Try.prog w 23 [.slice a n c]) : ∃ l : List Bool, ∀ (W : World) (H : List HProp), SR 1 W (old w :: H) a n c (l.map fun b => [.bool b]) := by
  obtain ⟨L, h1, h2, h3, h4, h5⟩ := rd_slice Try.underlying23 cells4 (by decide) h
  obtain ⟨l, hl⟩ := rd_map (f := fun b : Bool => [Value.bool b]) fun cs hc => rd_bool Try.underlying4 (h4 cs hc)
  refine ⟨l, fun W H => ?_⟩
  rw [hl] at h1 h5
  exact h5.sr h1 h2 h3 W H
theorem appends_top (a0 : Option Addr) (n0 c0 : Nat) (a1 : Option Addr) (n1 c1 : Nat) (w : World) (r0 : Rd enc Try.prog w 22 [.slice a0 n0 c0]) (r1 : Rd enc Try.prog w 23 [.slice a1 n1 c1]) :
    Calls Try.prog 3 #[.slice a0 n0 c0, .slice a1 n1 c1] w fun e w' => e = .returned (.bool true) ∧ Below w.heap.size w w' := by
  obtain ⟨l, hw, hl⟩ := sr_evs r0
  obtain ⟨m, hm⟩ := sr_bools r1
  by_cases h : 300 < n0
  · exact (appends_guard a0 n0 c0 _ h (by have := (hl w []).len; omega) (sat.start w)).mono fun _ _ ⟨he, hs⟩ => ⟨he, hs.below⟩
  · exact (appends_walk l m w a0 n0 c0 a1 n1 c1 (hl w []) (hm w []) hw (by omega) (sat.start w)).mono fun _ _ ⟨he, hs⟩ => ⟨he, hs.below⟩
end
end Go.Proofs.Ytppdggcefnlncaa
