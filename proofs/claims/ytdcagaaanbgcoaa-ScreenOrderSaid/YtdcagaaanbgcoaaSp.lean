/-
  A block of which some cells alone are known: what reads in a drawn region may lean on, while other cells of the block are written.
-/
import Derived.Test.YtdcagaaanbgcoaaSd
namespace Go.Mem
open Go.RowKit
variable {W w : World} {H : List HProp}
def pf (b : Nat) (F : List (Nat × Value)) : HProp := fun h => ∃ c T, h b = some (.cells c T (0, 0)) ∧ ∀ p ∈ F, c[p.1]? = some p.2
theorem sat.pf {b : Nat} {T : TypeId} {l : List Value} (hs : sat W (cel b T l :: H) w) (F : List (Nat × Value)) (hF : ∀ p ∈ F, l[p.1]? = some p.2) : sat W (pf b F :: H) w :=
  hs.imp fun h hb => ⟨l.toArray, T, hb, fun p hp => by simpa using hF p hp⟩
theorem sat.pf_cell {b i : Nat} {v : Value} {F : List (Nat × Value)} (hs : sat W (Mem.pf b F :: H) w) (hm : (i, v) ∈ F) : w.cell? ⟨b, i, none⟩ = some v := by
  obtain ⟨h1, h2, ap, s1, s2, ⟨c, T, hb, hc⟩, r⟩ := hs.2.2.2
  have e := s1 b _ hb
  simp [World.cell?, e, hc _ hm]
section
variable {P : Program} {ops : Array Oper} {rest : List Oper} {o : Oper} {a : Act} {Q : Act → Prop} {b i : Nat} {ty : TypeId} {X : Type} {f : X → World} {v : Value} {F : List (Nat × Value)}
theorem ldpq {x : Operand} (hf : ∀ x, sat W (pf b F :: H) (f x)) (ho : o.op = .load ty x) (hw : Region.wanted o (yielded ops a.tmps) = true) (hx : a.eval x = .pointer (some ⟨b, i, none⟩))
    (hm : (i, v) ∈ F) (ht : oneTy P ty = true) (h : wpQuiet P ops (fun w' => ∃ x : X, w' = f x) Q rest (a.put o.dst v)) : wpQuiet P ops (fun w' => ∃ x : X, w' = f x) Q (o :: rest) a := by
  refine BigFrame.wpQuiet_want hw fun K hK => ⟨v, ?_, hK _ h⟩
  rintro _ ⟨x, rfl⟩
  unfold Oper.quietAt execOp
  simp only [ho, hx, Sem.run_bind, Sem.run_pure, Result.andThen_ok, run_loadAt_one ht ((hf x).pf_cell hm)]
  exact ⟨rfl, rfl⟩
end
/-- A result that lies in a cell. -/
theorem results_cell1 {P : Program} {fn : Func} {tmps : Array Value} {b : Nat} {T ty : TypeId} {v : Value} {t : Tmp} (hs : sat W (cel b T [v] :: H) w)
    (hr : fn.results = #[.cell t ty]) (hx : tmps.getD t undef = .pointer (some ⟨b, 0, none⟩)) (ht : oneTy P ty = true) : (results fn tmps).run P w = .ok v w := by
  have hx' : tmps[t]?.getD undef = .pointer (some ⟨b, 0, none⟩) := by rw [← Array.getD_eq_getD_getElem?]; exact hx
  have hl := run_loadAt_one (P := P) ht (hs.cel_cell (i := 0) rfl)
  simp only [Instr.loadAt, Instr.sureAddr, Sem.run_bind, Sem.run_pure, Result.andThen_ok] at hl
  unfold results
  simp [hr, hx', hl, asAddr]
theorem ret_cell1 {P : Program} {fn : Func} {R : Ending → World → Prop} {a : Act} {b : Nat} {T ty : TypeId} {v : Value} {t : Tmp} (hs : sat W (cel b T [v] :: H) w)
    (hr : fn.results = #[.cell t ty]) (hd : a.defers = []) (hx : a.eval (.tmp t) = .pointer (some ⟨b, 0, none⟩)) (ht : oneTy P ty = true)
    (h : R (.returned v) w) : bodyPost P fn R .ret a w := ⟨hd, v, results_cell1 hs hr hx ht, h⟩
end Go.Mem
