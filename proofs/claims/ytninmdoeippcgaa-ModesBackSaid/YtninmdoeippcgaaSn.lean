/-
  A look-up in a map, in a drawn region.
-/
import Derived.Test.YtninmdoeippcgaaSm
import Derived.Test.YtninmdoeippcgaaSe
namespace Go.Mem
open Go.RowKit Go.Maps
variable {W w : World} {H : List HProp} {P : Program} {k : TypeId} {α : Type} {enc : α → Value} {b : Nat} {m : α → Option Value}
theorem lkq {X : Type} {f : X → World} {ops : Array Oper} {rest : List Oper} {o : Oper} {a : Act} {Q : Act → Prop} {x i : Operand} {ty e : TypeId} {z : Value} {y : α} {l : Lit}
    (hf : ∀ x, sat W (mp P k enc b m :: H) (f x)) (ho : o.op = .lookup ty x i false) (hw : Region.wanted o (yielded ops a.tmps) = true) (hx : a.eval x = .map (some b)) (hi : a.eval i = enc y)
    (K : Keyed P k) (ht : P.underlying ty = some (.map k e)) (hz : ∀ w, (zeroValue e).run P w = .ok z w) (inj : ∀ x y, enc x = enc y → x = y) (hkey : keyOf P k (enc y) = some l)
    (h : wpQuiet P ops (fun w' => ∃ x : X, w' = f x) Q rest (a.put o.dst ((m y).getD z))) : wpQuiet P ops (fun w' => ∃ x : X, w' = f x) Q (o :: rest) a := by
  refine BigFrame.wpQuiet_want hw fun K' hK => ⟨_, ?_, hK _ h⟩
  rintro _ ⟨x', rfl⟩
  obtain ⟨es, clock, hb, _, p1, p2, _⟩ := (hf x').map_open
  have hc : ∀ em, (Instr.checkKey em 10000 k (enc y)).run P (f x') = .ok () (f x') := fun em => K.check _ em hkey
  unfold Oper.quietAt execOp
  rcases map_found K inj p1 p2 hkey (f x') with ⟨h1, hm, _⟩ | ⟨j, e0, h1, h2, h3, hm⟩
  · simp [ho, hx, hi, Instr.lookup, run_underlying ht, MapKept.run_getObj_map hb, hc, h1, hz, Result.andThen, hm, Oper.quietUpon]
  · simp [ho, hx, hi, Instr.lookup, run_underlying ht, MapKept.run_getObj_map hb, hc, h1, Result.andThen, hm, Oper.quietUpon]
end Go.Mem
