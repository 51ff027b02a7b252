/- 'tactile/tactilelaw05.SgrTells' returns true for every input, and what was there is as it was. The frame is the kit's shell (proof-skeleton.mjs). -/
import Derived.Test.YtkmbgnonpnhfcaaRows
import Derived.Test.YtkmbgnonpnhfcaaS9
import Derived.WalkKit
import Derived.Lib.SmallJoins
import Derived.Below
import Derived.ProofKit
import Derived.OpenShut
import Derived.ShutString
namespace Go.Proofs.Ytkmbgnonpnhfcaa.sgrTells
open Go.ChangeShapes Go.WideShapes Go.ChangeAt Go.RowKit
open Go.ChangeMaps (open_string shut_string)
open Go.Mem Go.Joins Go.Deep
set_option linter.unusedVariables false      -- a walk need not use every 'w<i>' (that an integer argument fits its kind)

theorem laidOut : laidOutB Try.prog = true := by kernel_rfl
theorem own : ownKnob Try.prog.godebug = none := by kernel_rfl

theorem walk (a0x0 : Int) (a0x1 : Int) (a0x2 : Int) (a1x0 : Int) (a1x1 : Int) (a1x2 : Int) (w0x0 : (Lit.int .u32 a0x0).wf = true) (w0x1 : (Lit.int .u32 a0x1).wf = true) (w0x2 : (Lit.int .u16 a0x2).wf = true) (w1x0 : (Lit.int .u32 a1x0).wf = true) (w1x1 : (Lit.int .u32 a1x1).wf = true) (w1x2 : (Lit.int .u16 a1x2).wf = true) (w : World) :
    Calls Try.prog 6 #[.agg #[.int .u32 a0x0, .int .u32 a0x1, .int .u16 a0x2], .agg #[.int .u32 a1x0, .int .u32 a1x1, .int .u16 a1x2]] w fun e w' => e = .returned (.bool true) ∧ Below w.heap.size w w' := by
  exact tells_top w0x0 w0x1 w0x2 w1x0 w1x1 w1x2 w

set_option maxRecDepth 100000 in
theorem lifted (os : Os) (started : os.Started) (H : Type) (enc : TypeId × Value → H) :
    ReturnsInHanded {} Try.checked os 6 .any (Rows.sgrTellsSpec.pre6 enc Try.prog Try.f6 Rows.sgrTellsRow.domain false) (Rows.sgrTellsSpec.post enc Try.prog Try.f6 false true false false) := by
  refine returnsInHanded_of_change (C := Try.checked) own started (by kernel_rfl) Try.func6
    (ChangeSpec.witness6 (enc := enc) (C := Try.checked) false ⟨#[], #[.agg #[.int .u32 0, .int .u32 0, .int .u16 0], .agg #[.int .u32 0, .int .u32 0, .int .u16 0]], []⟩ 8 (by kernel_rfl) (by kernel_rfl) (by kernel_rfl) (by kernel_rfl)) ?_
  intro W base args ds gs before hval0 hW hcnd _
  have hval : ∀ (j : Nat) t v, Try.f6.params[j]? = some t → args[j]? = some v → Value.okWide Try.prog W .any base t v := hval0
  have hW' := hW
  obtain ⟨p, q, hA0, hV, rfl, hfz, hnd⟩ := hW
  have hA : DataW.TrodAll enc Try.prog W 0 (fun _ => true) true Try.f6.params.toList args.toList ds p := hA0
  rw [Try.params6] at hA hval
  obtain ⟨v0, vs0, d0, ds0, p0, q0, hargs, rfl, rfl, h0, r0⟩ := trodAll_cons hA
  obtain ⟨v1, vs1, d1, ds1, p1, q1, rfl, rfl, rfl, h1, r1⟩ := trodAll_cons r0
  obtain ⟨rfl, rfl, rfl⟩ := trodAll_nil r1
  obtain rfl : args = #[v0, v1] := by cases args; simp_all
  obtain ⟨rfl, rfl⟩ := trodVars_none hV
  have k0 := h0
  have lt0 : ∀ x ∈ p0, x.block < W.heap.size := by obtain ⟨m, hm⟩ := k0; exact DataW.trod_lt m _ _ _ hm
  obtain ⟨c0x0, c0x1, c0x2, y0x0, y0x1, y0x2, m0, rfl, _, _, hy0x0, hy0x1, hy0x2⟩ := open_agg3 Try.underlying25 (by kernel_rfl) (show Try.prog.cellsOf 25 = 3 by kernel_rfl) (hval 0 25 v0 rfl rfl) h0
  obtain ⟨a0x0, e0x0, _, w0x0⟩ := DataW.trod_int Try.underlying22 hy0x0
  obtain ⟨a0x1, e0x1, _, w0x1⟩ := DataW.trod_int Try.underlying22 hy0x1
  obtain ⟨a0x2, e0x2, _, w0x2⟩ := DataW.trod_int Try.underlying23 hy0x2
  obtain rfl := (List.cons.inj e0x0).1
  obtain rfl := (List.cons.inj e0x1).1
  obtain rfl := (List.cons.inj e0x2).1
  have k1 := h1
  have lt1 : ∀ x ∈ p1, x.block < W.heap.size := by obtain ⟨m, hm⟩ := k1; exact DataW.trod_lt m _ _ _ hm
  obtain ⟨c1x0, c1x1, c1x2, y1x0, y1x1, y1x2, m1, rfl, _, _, hy1x0, hy1x1, hy1x2⟩ := open_agg3 Try.underlying25 (by kernel_rfl) (show Try.prog.cellsOf 25 = 3 by kernel_rfl) (hval 1 25 v1 rfl rfl) h1
  obtain ⟨a1x0, e1x0, _, w1x0⟩ := DataW.trod_int Try.underlying22 hy1x0
  obtain ⟨a1x1, e1x1, _, w1x1⟩ := DataW.trod_int Try.underlying22 hy1x1
  obtain ⟨a1x2, e1x2, _, w1x2⟩ := DataW.trod_int Try.underlying23 hy1x2
  obtain rfl := (List.cons.inj e1x0).1
  obtain rfl := (List.cons.inj e1x1).1
  obtain rfl := (List.cons.inj e1x2).1
  clear hA0 hval0
  (try simp only [List.append_nil] at hW')
  refine (walk a0x0 a0x1 a0x2 a1x0 a1x1 a1x2 w0x0 w0x1 w0x2 w1x0 w1x1 w1x2 W).mono fun e W' ⟨he, bel⟩ => ?_
  subst he
  exact ⟨_, rfl, _, _, _, [], _, [], hW', trodAll_mk1 (shut_bool Try.underlying4 _), (trodAll_cons_mk (Below.trod laidOut (by kernel_rfl) (of_decide_eq_true (by kernel_rfl)) k0 bel lt0) (trodAll_cons_mk (Below.trod laidOut (by kernel_rfl) (of_decide_eq_true (by kernel_rfl)) k1 bel lt1) trodAll_mk0)), rfl, bel.frame _, fun h => by cases h⟩

theorem over : Rows.sgrTellsRow.holds Try.pinned (OpenSpec.ofChange Rows.sgrTellsSpec) :=
  OpenClaim.holds_of_wide 6 Try.f6 rfl rfl rfl rfl rfl rfl rfl ⟨rfl, rfl, rfl, rfl, rfl⟩ rfl rfl rfl rfl rfl (by kernel_rfl) Try.func6 (by kernel_rfl)
    (of_decide_eq_true (by kernel_rfl)) (by unfold Func.isWrapper; first | (rw [if_pos (by decide +kernel)]; kernel_rfl) | (rw [if_neg (by decide +kernel)]; exact ⟨rfl, rfl⟩))
    (fun os started H enc _ => lifted os started H enc)

theorem proved : Rows.SgrTellsSaid :=
  over
#print axioms proved
end Go.Proofs.Ytkmbgnonpnhfcaa.sgrTells
