/-
  More reads for a drawn region: bytes as a string; the element of an array.
-/
import Derived.Test.YtdbhgjkdblhhkaaSz
import Derived.Test.YtdbhgjkdblhhkaaSd
namespace Go.Mem
open Go.RowKit
variable {W w : World} {H : List HProp} {P : Program} {o : Oper} {ops : Array Oper} {rest : List Oper} {a : Act}
theorem cvsq {X : Type} {f : X → World} {Q : Act → Prop} {src dst e : TypeId} {x : Operand} {v : Value} {l : List Nat} (ho : o.op = .convert src dst x) (hw : Region.wanted o (yielded ops a.tmps) = true) (hx : a.eval x = v)
    (hs : P.underlying src = some (.slice e)) (he : P.underlying e = some (.int .u8)) (hd : P.underlying dst = some .string) (hr : ∀ x, Reads (f x) v (nums .u8 l))
    (h : wpQuiet P ops (fun w' => ∃ x : X, w' = f x) Q rest (a.put o.dst (.string (bs l)))) : wpQuiet P ops (fun w' => ∃ x : X, w' = f x) Q (o :: rest) a := by
  refine BigFrame.wpQuiet_want hw fun K hK => ⟨_, ?_, hK _ h⟩
  rintro _ ⟨x, rfl⟩
  unfold Oper.quietAt execOp
  simp only [ho, hx, Sem.run_bind, Sem.run_pure, Result.andThen_ok, run_str hs he hd (hr x)]
  exact ⟨rfl, rfl⟩
end Go.Mem
