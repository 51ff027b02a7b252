/-
  Structs and arrays that lie in a block, in the small logic of memory: read and written whole.
-/
import Derived.Test.YtdcagaaanbgcoaaSat
import Derived.Deep.MidRow
namespace Go.Mem
open Go.RowKit

/-- So many cells, put into a list from a place on. -/
def spl (l : List Value) : Nat → List Value → List Value
  | _, [] => l
  | o, v :: r => spl (l.set o v) (o + 1) r
theorem spl_length : ∀ (vs : List Value) (l : List Value) (o : Nat), (spl l o vs).length = l.length
  | [], _, _ => rfl
  | v :: r, l, o => by unfold spl; rw [spl_length r]; simp

section
variable {W w : World} {H : List HProp} {P : Program} {b i n : Nat} {T ty : TypeId} {l cs : List Value} {o : Oper} {ops : Array Oper} {rest : List Oper} {a : Act} {Q : Exit → Act → World → Prop}

theorem sat.cel_range (hs : sat W (cel b T l :: H) w) (hv : (l.drop i).take n = cs) : w.rangeAt b i cs := fun j v hj => by
  subst hv
  rw [List.getElem?_take] at hj
  split at hj
  · rw [List.getElem?_drop] at hj
    exact hs.cel_cell hj
  · cases hj
theorem sat.cel_there (hs : sat W (cel b T l :: H) w) (h : i + n ≤ l.length) : w.there b i n := fun j hj => by
  have h1 : (l[i + j]?) = some l[i + j] := List.getElem?_eq_getElem (by omega)
  exact ⟨by rw [hs.cel_cell h1]; rfl, sat.frozen hs⟩
theorem sat.setCells : ∀ (vs : List Value) (l : List Value) (i : Nat) {w : World}, sat W (cel b T l :: H) w → sat W (cel b T (spl l i vs) :: H) (w.setCells b i vs)
  | [], _, _, _, hs => hs
  | v :: r, l, i, w, hs => by
    rw [World.setCells]
    unfold spl
    refine sat.setCells r (l.set i v) (i + 1) ?_
    have := sat.set (i := i) hs v
    rw [show l.toArray.setIfInBounds i v = (l.set i v).toArray from by simp] at this
    exact this

theorem rowTy_parts {P : Program} {ty : TypeId} {n : Nat} (h : rowTy P ty n = true) : ∃ d, P.underlying ty = some d ∧ d.isRow = true ∧ (P.info? ty).map (·.size) = some n := by
  unfold rowTy at h
  rw [Bool.and_eq_true] at h
  obtain ⟨h1, h2⟩ := h
  cases hu : P.underlying ty with
  | none => rw [hu] at h1; cases h1
  | some d =>
    rw [hu] at h1
    refine ⟨d, rfl, ?_, by simpa using h2⟩
    cases d <;> simp_all [TypeDesc.isRow]

/-- A struct, an array is read. -/
theorem lds {x : Operand} (n : Nat) (hs : sat W (cel b T l :: H) w) (ho : o.op = .load ty x) (hw : Region.wanted o (yielded ops a.tmps) = true) (hx : a.eval x = .pointer (some ⟨b, i, none⟩))
    (ht : rowTy P ty n = true) (hv : (l.drop i).take n = cs) (hn : cs.length = n) (h : wpList P ops Q rest (a.put o.dst (.agg cs.toArray)) w) : wpList P ops Q (o :: rest) a w := by
  obtain ⟨d, h1, h2, h3⟩ := rowTy_parts ht
  exact BigFrame.wpList_want hw fun K hK => wp_load_mid ty x ho b i hx cs d (hs.cel_range hv) h1 h2 (by rw [h3, hn]) (hK _ _ h)
/-- .. is written. -/
theorem sts {x : Operand} {t : Tmp} {c : Array Value} (hs : sat W (cel b T l :: H) w) (ho : o.op = .store ty x (.tmp t)) (hw : Region.wanted o (yielded ops a.tmps) = true) (hx : a.eval x = .pointer (some ⟨b, i, none⟩))
    (hy : a.tmps.toList[t]? = some (.agg c)) (ht : rowTy P ty c.toList.length = true) (hi : i + c.toList.length ≤ l.length) (h1 : c.toList.all (·.oneCell') = true) (hd : o.dst = none)
    (h : ∀ w', sat W (cel b T (spl l i c.toList) :: H) w' → wpList P ops Q rest a w') : wpList P ops Q (o :: rest) a w := by
  obtain ⟨d, _, _, h3⟩ := rowTy_parts ht
  have hy' : a.eval (.tmp t) = .agg c := by show a.tmps.getD t undef = _; rw [Array.getD_eq_getD_getElem?, ← Array.getElem?_toList, hy]; rfl
  have hsz : c.toList.length = c.size := by simp
  refine BigFrame.wpList_want hw fun K hK => wp_store_mid ty x (.tmp t) ho b i c hx hy' (hs.cel_there (by omega)) (by rw [h3, hsz]) (by simpa using h1) (hK _ _ ?_)
  rw [hd]
  exact h _ (hs.setCells c.toList l i)
theorem spl_app : ∀ (vs p q : List Value), q.length = vs.length → spl (p ++ q) p.length vs = p ++ vs
  | [], p, q, h => by
    obtain rfl : q = [] := List.eq_nil_of_length_eq_zero h
    rfl
  | v :: r, p, [], h => by simp at h
  | v :: r, p, x :: q, h => by
    unfold spl
    have e : (p ++ x :: q).set p.length v = (p ++ [v]) ++ q := by simp
    rw [e]
    have := spl_app r (p ++ [v]) q (by simpa using h)
    rw [show (p ++ [v]).length = p.length + 1 from by simp] at this
    rw [this]; simp
theorem spl_all {l vs : List Value} (h : l.length = vs.length) : spl l 0 vs = vs := spl_app vs [] l h
/-- A struct, an array is read that fills its block. -/
theorem ldsw {x : Operand} (hs : sat W (cel b T l :: H) w) (ho : o.op = .load ty x) (hw : Region.wanted o (yielded ops a.tmps) = true) (hx : a.eval x = .pointer (some ⟨b, 0, none⟩))
    (ht : rowTy P ty l.length = true) (h : wpList P ops Q rest (a.put o.dst (.agg l.toArray)) w) : wpList P ops Q (o :: rest) a w :=
  lds l.length hs ho hw hx ht (by simp) rfl h
theorem stsw {x : Operand} {t : Tmp} {c : List Value} (hs : sat W (cel b T l :: H) w) (ho : o.op = .store ty x (.tmp t)) (hw : Region.wanted o (yielded ops a.tmps) = true) (hx : a.eval x = .pointer (some ⟨b, 0, none⟩))
    (hy : a.tmps.toList[t]? = some (.agg c.toArray)) (ht : rowTy P ty c.length = true) (hi : l.length = c.length) (h1 : c.all (·.oneCell') = true) (hd : o.dst = none)
    (h : ∀ w', sat W (cel b T c :: H) w' → wpList P ops Q rest a w') : wpList P ops Q (o :: rest) a w := by
  refine sts (c := c.toArray) hs ho hw hx hy ht ?_ h1 hd fun w' hs' => h w' ?_
  · show 0 + c.length ≤ l.length; omega
  · rw [show spl l 0 c.toArray.toList = c from spl_all hi] at hs'; exact hs'
end

/-- What a function returns that keeps its result in a cell. -/
theorem ret_cell {P : Program} {fn : Func} {R : Ending → World → Prop} {W w : World} {H : List HProp} {a : Act} {b : Nat} {T ty : TypeId} {l : List Value} {t : Tmp} (hs : sat W (cel b T l :: H) w)
    (hr : fn.results = #[.cell t ty]) (hd : a.defers = []) (hx : a.eval (.tmp t) = .pointer (some ⟨b, 0, none⟩)) (ht : rowTy P ty l.length = true)
    (h : R (.returned (.agg l.toArray)) w) : bodyPost P fn R .ret a w := by
  obtain ⟨d, h1, h2, h3⟩ := rowTy_parts ht
  refine ⟨hd, .agg l.toArray, ?_, h⟩
  have hx' : a.tmps[t]?.getD undef = .pointer (some ⟨b, 0, none⟩) := by rw [← Array.getD_eq_getD_getElem?]; exact hx
  have hl := run_loadVar_mid (P := P) w b 0 ty l d (hs.cel_range (i := 0) (n := l.length) (by simp)) h1 h2 h3
  unfold results
  simp [hr, hx', hl, asAddr]
/-- The element of an array that is a value. -/
theorem ix {P : Program} {w : World} {o : Oper} {ops : Array Oper} {rest : List Oper} {a : Act} {Q : Exit → Act → World → Prop} {x i : Operand} {ty e : TypeId} {c : Array Value} {n k : Nat} {kd : IntKind} {v : Value}
    (ho : o.op = .index ty x i) (hw : Region.wanted o (yielded ops a.tmps) = true) (hx : a.eval x = .agg c) (hi : a.eval i = .int kd k) (hu : P.underlying ty = some (.array n e)) (ht : oneTy P e = true)
    (hk : k < n) (hv : c[k]? = some v) (h : wpList P ops Q rest (a.put o.dst v) w) : wpList P ops Q (o :: rest) a w := by
  simp only [oneTy, Bool.and_eq_true, beq_iff_eq] at ht
  have hagg : (isAgg e).run P w = .ok false w := by
    cases hu : P.underlying e with
    | none => simp [hu] at ht
    | some d =>
      unfold isAgg
      rw [Sem.run_bind, run_underlying hu w]
      have h1 := ht.1
      rw [hu] at h1
      cases d <;> simp_all
  have hsz : (sizeOf e).run P w = .ok 1 w := by
    cases hq : P.info? e with
    | none => simp [hq] at ht
    | some i => have h2 := ht.2; rw [hq] at h2; simp at h2; simp [sizeOf, typeInfo, hq, h2]
  refine BigFrame.wpList_want hw fun K hK => ?_
  unfold Oper.wp execOp
  have hin : (0 : Int) ≤ k ∧ (k : Int) < n := by omega
  simp [ho, hx, hi, Instr.index, asIntOf, run_underlying hu, hk, hsz, part, hagg, hv, Result.andThen]
  exact hK _ _ h
end Go.Mem
