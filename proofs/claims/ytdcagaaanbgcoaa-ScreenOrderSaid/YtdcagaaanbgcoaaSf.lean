/- The walk's laws of Sat, Sr, Sz once more, the part that holds the cell named behind the address: one arm for all parts ('first | exact hs.b0 | ..' stands behind the address). -/
import Derived.Test.YtdcagaaanbgcoaaSs
namespace Go.Mem
open Go.RowKit
variable {W w : World} {H : List HProp} {P : Program} {ops : Array Oper} {rest : List Oper} {o : Oper} {a : Act} {b i cap size k : Nat} {l xs : List Value} {T ty : TypeId} {v : Value} {x : Operand} {t : Tmp}
section
variable {Q : Exit → Act → World → Prop}
theorem ldx (ho : o.op = .load ty x) (hw : Region.wanted o (yielded ops a.tmps) = true) (hx : a.eval x = .pointer (some ⟨b, i, none⟩)) (hs : sat W (cel b T l :: H) w)
    (hv : l[i]? = some v) (ht : oneTy P ty = true) (h : wpList P ops Q rest (a.put o.dst v) w) : wpList P ops Q (o :: rest) a w := ld hs ho hw hx hv ht h
theorem stx (ho : o.op = .store ty x (.tmp t)) (hw : Region.wanted o (yielded ops a.tmps) = true) (hx : a.eval x = .pointer (some ⟨b, i, none⟩)) (hs : sat W (cel b T l :: H) w)
    (hy : a.tmps.toList[t]? = some v) (h1 : v.oneCell' = true) (hi : l[i]?.isSome = true) (ht : oneTy P ty = true) (hd : o.dst = none)
    (h : ∀ w', sat W (cel b T (l.set i v) :: H) w' → wpList P ops Q rest a w') : wpList P ops Q (o :: rest) a w := st hs ho hw hx hy h1 hi ht hd h
theorem stcx (ho : o.op = .store ty x (.const v)) (hw : Region.wanted o (yielded ops a.tmps) = true) (hx : a.eval x = .pointer (some ⟨b, i, none⟩)) (hs : sat W (cel b T l :: H) w)
    (h1 : v.oneCell' = true) (hi : l[i]?.isSome = true) (ht : oneTy P ty = true) (hd : o.dst = none)
    (h : ∀ w', sat W (cel b T (l.set i v) :: H) w' → wpList P ops Q rest a w') : wpList P ops Q (o :: rest) a w := stc hs ho hw hx h1 hi ht hd h
theorem ldsx (n : Nat) {cs : List Value} (ho : o.op = .load ty x) (hw : Region.wanted o (yielded ops a.tmps) = true) (hx : a.eval x = .pointer (some ⟨b, i, none⟩)) (hs : sat W (cel b T l :: H) w)
    (ht : rowTy P ty n = true) (hv : (l.drop i).take n = cs) (hn : cs.length = n) (h : wpList P ops Q rest (a.put o.dst (.agg cs.toArray)) w) : wpList P ops Q (o :: rest) a w := lds n hs ho hw hx ht hv hn h
theorem stsx {c : Array Value} (ho : o.op = .store ty x (.tmp t)) (hw : Region.wanted o (yielded ops a.tmps) = true) (hx : a.eval x = .pointer (some ⟨b, i, none⟩)) (hs : sat W (cel b T l :: H) w)
    (hy : a.tmps.toList[t]? = some (.agg c)) (ht : rowTy P ty c.toList.length = true) (hi : i + c.toList.length ≤ l.length) (h1 : c.toList.all (·.oneCell') = true) (hd : o.dst = none)
    (h : ∀ w', sat W (cel b T (spl l i c.toList) :: H) w' → wpList P ops Q rest a w') : wpList P ops Q (o :: rest) a w := sts hs ho hw hx hy ht hi h1 hd h
theorem ldswx (ho : o.op = .load ty x) (hw : Region.wanted o (yielded ops a.tmps) = true) (hx : a.eval x = .pointer (some ⟨b, 0, none⟩)) (hs : sat W (cel b T l :: H) w)
    (ht : rowTy P ty l.length = true) (h : wpList P ops Q rest (a.put o.dst (.agg l.toArray)) w) : wpList P ops Q (o :: rest) a w := ldsw hs ho hw hx ht h
theorem stswx {c : List Value} (ho : o.op = .store ty x (.tmp t)) (hw : Region.wanted o (yielded ops a.tmps) = true) (hx : a.eval x = .pointer (some ⟨b, 0, none⟩)) (hs : sat W (cel b T l :: H) w)
    (hy : a.tmps.toList[t]? = some (.agg c.toArray)) (ht : rowTy P ty c.length = true) (hi : l.length = c.length) (h1 : c.all (·.oneCell') = true) (hd : o.dst = none)
    (h : ∀ w', sat W (cel b T c :: H) w' → wpList P ops Q rest a w') : wpList P ops Q (o :: rest) a w := stsw hs ho hw hx hy ht hi h1 hd h
end
section
variable {Q : Act → Prop} {X : Type} {f : X → World}
theorem ldqx (ho : o.op = .load ty x) (hw : Region.wanted o (yielded ops a.tmps) = true) (hx : a.eval x = .pointer (some ⟨b, i, none⟩)) (hf : ∀ x, sat W (cel b T l :: H) (f x))
    (hv : l[i]? = some v) (ht : oneTy P ty = true) (h : wpQuiet P ops (fun w' => ∃ x : X, w' = f x) Q rest (a.put o.dst v)) : wpQuiet P ops (fun w' => ∃ x : X, w' = f x) Q (o :: rest) a := ldq hf ho hw hx hv ht h
theorem ldsqx (n : Nat) {cs : List Value} (ho : o.op = .load ty x) (hw : Region.wanted o (yielded ops a.tmps) = true) (hx : a.eval x = .pointer (some ⟨b, i, none⟩)) (hf : ∀ x, sat W (cel b T l :: H) (f x))
    (ht : rowTy P ty n = true) (hv : (l.drop i).take n = cs) (hn : cs.length = n) (h : wpQuiet P ops (fun w' => ∃ x : X, w' = f x) Q rest (a.put o.dst (.agg cs.toArray))) : wpQuiet P ops (fun w' => ∃ x : X, w' = f x) Q (o :: rest) a := ldsq n hf ho hw hx ht hv hn h
end
end Go.Mem
