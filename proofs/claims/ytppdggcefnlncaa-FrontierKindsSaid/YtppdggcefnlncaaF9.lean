import Derived.Test.YtppdggcefnlncaaF5
import Derived.Deep.Cut
import Derived.Deep.CutRange
import Derived.Deep.DeepCutAuto
import Derived.Below
namespace Go.Proofs.Ytppdggcefnlncaa
open Go.RowKit Go.Mem Go.Front
variable {W w : World} {H : List HProp}
abbrev kE (k : Int) : Ev := ⟨k, 0, 0, 0, false, 0, false, false, false, false⟩
abbrev freshE : Ev := ⟨3, 0, 0, 0, false, 0, false, false, true, false⟩
theorem feed_t {s s' : St} {e : Ev} {echo : Bool} {k : Int} (h : feed s e echo = (s', k)) (hw : wfE e) (b : Nat) (hs : sat W (cel b 39 (stL s) :: H) w) : Calls Try.prog 9 #[.pointer (some ⟨b, 0, none⟩), evV e, .bool echo] w fun e' w' => e' = .returned (.int .u8 k) ∧ sat W (cel b 39 (stL s') :: H) w' := by
  have := feed9 s e echo hw b hs
  rwa [h] at this
theorem on_t {off on : Bool} {last : Int} (h : (!off) = on) (b : Nat) (hs : sat W (cel b 39 (stL ⟨off, last⟩) :: H) w) : Calls Try.prog 8 #[.pointer (some ⟨b, 0, none⟩)] w fun e' w' => e' = .returned (.bool on) ∧ sat W (cel b 39 (stL ⟨off, last⟩) :: H) w' := by
  have := on8 ⟨off, last⟩ b hs
  rwa [show (!(St.mk off last).off) = on from h] at this
theorem k1 : feed new (putE true) false = (⟨false, 2⟩, 2) := rfl
theorem k2 : feed ⟨false, 2⟩ (putE false) false = (⟨true, 3⟩, 3) := rfl
theorem k3 : feed ⟨true, 3⟩ (putE true) false = (⟨true, 3⟩, 3) := rfl
theorem k4 : feed ⟨true, 3⟩ freshE false = (⟨false, 3⟩, 0) := rfl
theorem k5 : feed ⟨false, 3⟩ (putE true) false = (⟨false, 2⟩, 2) := rfl
theorem wp (b : Bool) : wfE (putE b) := (show (0 : Int) ≤ 1 ∧ (1 : Int) < 256 from ⟨by decide, by decide⟩)
theorem wfr : wfE freshE := ⟨by decide, by decide⟩
theorem wk {k : Int} (h : 0 ≤ k) (h' : k < 256) : wfE (kE k) := ⟨h, h'⟩
attribute [local irreducible] World.setCell World.setCells World.alloc World.drew World.drewN Calls sat cel own blk old wpQuiet wpList World.rangeAt
set_option maxHeartbeats 1000000 in
theorem known6 (hs : sat W H w) : Calls Try.prog 6 #[] w fun e w' => e = .returned (.bool true) ∧ sat W H w' := by
  go_enter Try.func6, Try.ntmps6
  go_wp2_with (first | (go_at_call 7; refine (new7 hs).mono ?_; clear hs; rintro e w ⟨zf, rfl, hs⟩) | (go_at_call 13; refine (put13 _ hs).mono ?_; clear hs; rintro e w ⟨rfl, hs⟩) | (go_at_call 9; refine (feed_t k1 (wp _) zf hs).mono ?_; clear hs; rintro e w ⟨rfl, hs⟩) | (go_at_call 9; refine (feed_t k2 (wp _) zf hs).mono ?_; clear hs; rintro e w ⟨rfl, hs⟩) | (go_at_call 9; refine (feed_t k3 (wp _) zf hs).mono ?_; clear hs; rintro e w ⟨rfl, hs⟩) | (go_at_call 9; refine (feed_t k4 wfr zf hs).mono ?_; clear hs; rintro e w ⟨rfl, hs⟩) | (go_at_call 9; refine (feed_t k5 (wp _) zf hs).mono ?_; clear hs; rintro e w ⟨rfl, hs⟩) | (go_at_call 8; refine (on_t rfl zf hs).mono ?_; clear hs; rintro e w ⟨rfl, hs⟩) | ((with_reducible refine isl ?_); first | ((with_reducible apply ld hs.b0); exact rfl; exact rfl; exact rfl; exact rfl; kernel_rfl) | ((with_reducible apply ld hs.b1); exact rfl; exact rfl; exact rfl; exact rfl; kernel_rfl) | ((with_reducible apply st hs.b0); exact rfl; exact rfl; exact rfl; exact rfl; exact rfl; exact rfl; kernel_rfl; exact rfl; clear hs; intro w hs) | ((with_reducible apply st hs.b1); exact rfl; exact rfl; exact rfl; exact rfl; exact rfl; exact rfl; kernel_rfl; exact rfl; clear hs; intro w hs) | ((with_reducible apply stc hs.b0); exact rfl; exact rfl; exact rfl; exact rfl; exact rfl; kernel_rfl; exact rfl; clear hs; intro w hs) | ((with_reducible apply stc hs.b1); exact rfl; exact rfl; exact rfl; exact rfl; exact rfl; kernel_rfl; exact rfl; clear hs; intro w hs) | ((with_reducible refine wrap hs ?_); clear hs; intro w hs) | ((with_reducible refine wrapn hs ?_); clear hs; intro w hs) | ((with_reducible refine wrapd hs ?_); clear hs; intro w hs)))
  go_ret
  exact ⟨rfl, hs.drop⟩
theorem appends_guard (a : Option Addr) (n c : Nat) (v : Value) (h : 300 < n) (hc : n ≤ maxLen) (hs : sat W H w) : Calls Try.prog 3 #[.slice a n c, v] w fun e w' => e = .returned (.bool true) ∧ sat W H w' := by
  unfold maxLen at hc
  go_enter Try.func3, Try.ntmps3
  go_wp2_with (first | (go_at_call 6; refine (known6 hs).mono ?_; clear hs; rintro e w ⟨rfl, hs⟩) | ((with_reducible refine isl ?_); first | ((with_reducible refine wrap hs ?_); clear hs; intro w hs) | ((with_reducible refine wrapn hs ?_); clear hs; intro w hs) | ((with_reducible refine wrapd hs ?_); clear hs; intro w hs)))
  go_ret
  exact ⟨rfl, hs⟩
section
variable {E : Type} {enc : TypeId × Value → E}
theorem cells21 : Try.prog.cellsOf 21 = 1 := by kernel_rfl
theorem cells29 : Try.prog.cellsOf 29 = 10 := by kernel_rfl
theorem cells3 : Try.prog.cellsOf 3 = 1 := by kernel_rfl
theorem cells4 : Try.prog.cellsOf 4 = 1 := by kernel_rfl
theorem cells5 : Try.prog.cellsOf 5 = 1 := by kernel_rfl
theorem cells27 : Try.prog.cellsOf 27 = 1 := by kernel_rfl
theorem rd_ev {cs : List Value} (h : Rd enc Try.prog w 29 cs) : ∃ e : Ev, cs = evL e ∧ wfE e := by
  obtain ⟨hl, hf⟩ := rd_struct Try.underlying29 h
  rw [cells29] at hl
  match cs, hl with
  | [c0, c1, c2, c3, c4, c5, c6, c7, c8, c9], _ =>
    have f0 : Rd enc Try.prog w 5 (([c0, c1, c2, c3, c4, c5, c6, c7, c8, c9].drop 0).take (Try.prog.cellsOf 5)) := hf 0 _ rfl
    rw [cells5] at f0
    have f1 : Rd enc Try.prog w 27 (([c0, c1, c2, c3, c4, c5, c6, c7, c8, c9].drop 1).take (Try.prog.cellsOf 27)) := hf 1 _ rfl
    rw [cells27] at f1
    have f2 : Rd enc Try.prog w 3 (([c0, c1, c2, c3, c4, c5, c6, c7, c8, c9].drop 2).take (Try.prog.cellsOf 3)) := hf 2 _ rfl
    rw [cells3] at f2
    have f3 : Rd enc Try.prog w 3 (([c0, c1, c2, c3, c4, c5, c6, c7, c8, c9].drop 3).take (Try.prog.cellsOf 3)) := hf 3 _ rfl
    rw [cells3] at f3
    have f4 : Rd enc Try.prog w 4 (([c0, c1, c2, c3, c4, c5, c6, c7, c8, c9].drop 4).take (Try.prog.cellsOf 4)) := hf 4 _ rfl
    rw [cells4] at f4
    have f5 : Rd enc Try.prog w 21 (([c0, c1, c2, c3, c4, c5, c6, c7, c8, c9].drop 5).take (Try.prog.cellsOf 21)) := hf 5 _ rfl
    rw [cells21] at f5
    have f6 : Rd enc Try.prog w 4 (([c0, c1, c2, c3, c4, c5, c6, c7, c8, c9].drop 6).take (Try.prog.cellsOf 4)) := hf 6 _ rfl
    rw [cells4] at f6
    have f7 : Rd enc Try.prog w 4 (([c0, c1, c2, c3, c4, c5, c6, c7, c8, c9].drop 7).take (Try.prog.cellsOf 4)) := hf 7 _ rfl
    rw [cells4] at f7
    have f8 : Rd enc Try.prog w 4 (([c0, c1, c2, c3, c4, c5, c6, c7, c8, c9].drop 8).take (Try.prog.cellsOf 4)) := hf 8 _ rfl
    rw [cells4] at f8
    have f9 : Rd enc Try.prog w 4 (([c0, c1, c2, c3, c4, c5, c6, c7, c8, c9].drop 9).take (Try.prog.cellsOf 4)) := hf 9 _ rfl
    rw [cells4] at f9
    obtain ⟨k, e0, hw⟩ := rd_int Try.underlying5 f0
    obtain ⟨i0, e1, _⟩ := rd_int Try.underlying27 f1
    obtain ⟨i1, e2, _⟩ := rd_int Try.underlying3 f2
    obtain ⟨i2, e3, _⟩ := rd_int Try.underlying3 f3
    obtain ⟨b0, e4⟩ := rd_bool Try.underlying4 f4
    obtain ⟨i3, e5, _⟩ := rd_int Try.underlying21 f5
    obtain ⟨b1, e6⟩ := rd_bool Try.underlying4 f6
    obtain ⟨b2, e7⟩ := rd_bool Try.underlying4 f7
    obtain ⟨b3, e8⟩ := rd_bool Try.underlying4 f8
    obtain ⟨b4, e9⟩ := rd_bool Try.underlying4 f9
    simp at e0 e1 e2 e3 e4 e5 e6 e7 e8 e9
    subst e0 e1 e2 e3 e4 e5 e6 e7 e8 e9
    refine ⟨⟨k, i0, i1, i2, b0, i3, b1, b2, b3, b4⟩, rfl, ?_⟩
    simp [Lit.wf, IntKind.min, IntKind.max, IntKind.signed, IntKind.bits] at hw
    exact ⟨by simp only; omega, by simp only; omega⟩
theorem sr_evs {a : Option Addr} {n c : Nat} (h : Rd enc Try.prog w 22 [.slice a n c]) : ∃ l : List Ev, (∀ e ∈ l, wfE e) ∧ ∀ (W : World) (H : List HProp), SR 10 W (old w :: H) a n c (l.map evL) := by
  obtain ⟨L, h1, h2, h3, h4, h5⟩ := rd_slice Try.underlying22 cells29 (by decide) h
  have h6 : ∀ cs ∈ L, ∃ x : {e : Ev // wfE e}, cs = evL x.1 := fun cs hc => by
    obtain ⟨e, he, hw⟩ := rd_ev (h4 cs hc)
    exact ⟨⟨e, hw⟩, he⟩
  obtain ⟨l, hl⟩ := rd_map (f := fun x : {e : Ev // wfE e} => evL x.1) h6
  refine ⟨l.map (·.1), fun e he => ?_, fun W H => ?_⟩
  · obtain ⟨x, _, rfl⟩ := List.mem_map.1 he
    exact x.2
  · rw [List.map_map]
    rw [hl] at h1 h5
    exact h5.sr h1 h2 h3 W H
theorem sr_bools {a : Option Addr} {n c : Nat} (h : Rd enc Try.prog w 23 [.slice a n c]) : ∃ l : List Bool, ∀ (W : World) (H : List HProp), SR 1 W (old w :: H) a n c (l.map fun b => [.bool b]) := by
  obtain ⟨L, h1, h2, h3, h4, h5⟩ := rd_slice Try.underlying23 cells4 (by decide) h
  obtain ⟨l, hl⟩ := rd_map (f := fun b : Bool => [Value.bool b]) fun cs hc => rd_bool Try.underlying4 (h4 cs hc)
  refine ⟨l, fun W H => ?_⟩
  rw [hl] at h1 h5
  exact h5.sr h1 h2 h3 W H
end
end Go.Proofs.Ytppdggcefnlncaa
