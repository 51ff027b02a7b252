/-
  More laws of the small logic of memory: an element of an array that is a value, at a number.
-/
import Derived.Test.YtdcagaaanbgcoaaSv
import Derived.Test.YtdcagaaanbgcoaaSr
namespace Go.Mem
open Go.RowKit
variable {W w : World} {H : List HProp} {P : Program} {o : Oper} {ops : Array Oper} {rest : List Oper} {a : Act} {Q : Exit → Act → World → Prop}
theorem ixi {x i : Operand} {ty e : TypeId} {c : Array Value} {n : Nat} {k : Int} {kd : IntKind} {v : Value}
    (ho : o.op = .index ty x i) (hw : Region.wanted o (yielded ops a.tmps) = true) (hx : a.eval x = .agg c) (hi : a.eval i = .int kd k) (hu : P.underlying ty = some (.array n e)) (ht : oneTy P e = true)
    (h0 : 0 ≤ k) (hk : k < n) (hv : c[k.toNat]? = some v) (h : wpList P ops Q rest (a.put o.dst v) w) : wpList P ops Q (o :: rest) a w := by
  obtain ⟨m, rfl⟩ : ∃ m : Nat, k = m := ⟨k.toNat, by omega⟩
  exact ix ho hw hx hi hu ht (by omega) (by simpa using hv) h
end Go.Mem
