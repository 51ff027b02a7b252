/-
  Slices whose elements take several cells (structs), or one: as rows of cells, in the small logic of memory; the arguments' own readings opened.
-/
import Derived.Test.YtdcagaaanbgcoaaSz
import Derived.Test.YtdcagaaanbgcoaaSr
import Derived.Deep.Slices
namespace Go.Mem
open Go.RowKit Go.Deep
variable {W w : World} {H : List HProp}

theorem cells_range {w : World} {a : Addr} {n : Nat} {cs : List Value} (h : w.cells? 0 a n = some cs) : cs.length = n ∧ (0 < n → ∃ b off, a = ⟨b, off, none⟩ ∧ w.rangeAt b off cs) := by
  unfold World.cells? at h
  rw [if_pos (Nat.zero_le _)] at h
  have hl : cs.length = n := by simpa using mapM_some_length h
  have hg : ∀ i, i < n → w.cell? (a.add i) = cs[i]? := fun i hi => mapM_some_get h i i (by simp [hi])
  refine ⟨hl, fun hn => ?_⟩
  have h0 := hg 0 hn
  rw [List.getElem?_eq_getElem (by omega)] at h0
  have hs := World.cell?_spot h0
  have e0 : a.add 0 = a := by simp [Addr.add]
  rw [e0] at hs
  obtain ⟨b, off, spot⟩ := a
  simp only at hs
  subst hs
  refine ⟨b, off, rfl, fun j v hj => ?_⟩
  have hj' : j < n := by rw [← hl]; exact (List.getElem?_eq_some_iff.1 hj).1
  have := hg j hj'
  rw [add_none] at this
  rw [this, hj]

/-- Rows of so many cells each, one behind the other from an address on. -/
def RowsAt (w : World) (size : Nat) (a : Option Addr) (L : List (List Value)) : Prop :=
  ∀ i cs, L[i]? = some cs → cs.length = size ∧ ∃ b off, a = some ⟨b, off, none⟩ ∧ w.rangeAt b (off + i * size) cs
/-- A slice of rows that stands in every world that meets H. -/
def SR (size : Nat) (W : World) (H : List HProp) (a : Option Addr) (n c : Nat) (L : List (List Value)) : Prop :=
  n = L.length ∧ n ≤ c ∧ c ≤ maxLen ∧ ∀ w', sat W H w' → RowsAt w' size a L
variable {size : Nat} {a : Option Addr} {n c : Nat} {L : List (List Value)}
theorem SR.more {A : HProp} (h : SR size W H a n c L) : SR size W (A :: H) a n c L := ⟨h.1, h.2.1, h.2.2.1, fun w' hs => h.2.2.2 w' hs.drop⟩
theorem SR.mono {H' : List HProp} (h : SR size W H a n c L) (f : ∀ w', sat W H' w' → sat W H w') : SR size W H' a n c L := ⟨h.1, h.2.1, h.2.2.1, fun w' hs => h.2.2.2 w' (f w' hs)⟩
theorem SR.len (h : SR size W H a n c L) : n = L.length ∧ n ≤ c ∧ c ≤ maxLen := ⟨h.1, h.2.1, h.2.2.1⟩
theorem SR.take {k c' : Nat} (h : SR size W H a n c L) (hk : k ≤ n) (hc : k ≤ c') (hm : c' ≤ maxLen) : SR size W H a k c' (L.take k) := by
  obtain ⟨rfl, h1, h2, hr⟩ := h
  refine ⟨by simp; omega, hc, hm, fun w' hw i cs hi => ?_⟩
  rw [List.getElem?_take] at hi
  split at hi
  · exact hr w' hw i cs hi
  · cases hi
theorem SR.drop {b off k : Nat} (h : SR size W H (some ⟨b, off, none⟩) n c L) (hk : k ≤ n) : SR size W H (some ⟨b, off + k * size, none⟩) (n - k) (c - k) (L.drop k) := by
  obtain ⟨rfl, h1, h2, hr⟩ := h
  refine ⟨by simp, by omega, by omega, fun w' hw i cs hi => ?_⟩
  rw [List.getElem?_drop] at hi
  obtain ⟨e1, b', off', e2, h3⟩ := hr w' hw (k + i) cs hi
  cases e2
  refine ⟨e1, b, off + k * size, rfl, ?_⟩
  rw [show off + k * size + i * size = off + (k + i) * size from by rw [Nat.add_mul, Nat.add_assoc]]
  exact h3
theorem SR.nil (hn : n = 0) (hc : c ≤ maxLen) : SR size W H a n c [] := ⟨hn, by omega, hc, fun _ _ i cs hi => by simp at hi⟩
theorem SR.get (h : SR size W H a n c L) (hs : sat W H w) {k : Nat} {cs : List Value} (hk : L[k]? = some cs) :
    cs.length = size ∧ ∃ b off, a = some ⟨b, off, none⟩ ∧ ∀ w', sat W H w' → w'.rangeAt b (off + k * size) cs := by
  obtain ⟨e1, b, off, e2, h3⟩ := h.2.2.2 w hs k cs hk
  refine ⟨e1, b, off, e2, fun w' hw => ?_⟩
  obtain ⟨_, b', off', e4, h5⟩ := h.2.2.2 w' hw k cs hk
  rw [e2] at e4
  cases e4
  exact h5
theorem SR.getm {α : Type} {f : α → List Value} {l : List α} (h : SR size W H a n c (l.map f)) (hs : sat W H w) {k : Nat} (hk : k < n) :
    ∃ x, l[k]? = some x ∧ ∃ b off, a = some ⟨b, off, none⟩ ∧ ∀ w', sat W H w' → w'.rangeAt b (off + k * size) (f x) := by
  have hk' : k < l.length := by have := h.1; rw [List.length_map] at this; omega
  obtain ⟨_, b, off, e, h2⟩ := h.get hs (k := k) (cs := f l[k]) (by simp [hk'])
  exact ⟨l[k], by simp [hk'], b, off, e, h2⟩

theorem SR.getb {α : Type} {f : α → Value} {l : List α} (h : SR 1 W H a n c (l.map fun x => [f x])) (hs : sat W H w) {k : Nat} (hk : k < n) :
    ∃ x, l[k]? = some x ∧ ∃ b off, a = some ⟨b, off, none⟩ ∧ ∀ w', sat W H w' → w'.cell? ⟨b, off + k, none⟩ = some (f x) := by
  obtain ⟨x, hx, b, off, e, h2⟩ := h.getm hs hk
  refine ⟨x, hx, b, off, e, fun w' hw => ?_⟩
  have := h2 w' hw 0 (f x) rfl
  rwa [Nat.mul_one] at this
theorem SR.takem {α : Type} {f : α → List Value} {l : List α} {k c' : Nat} (h : SR size W H a n c (l.map f)) (hk : k ≤ n) (hc : k ≤ c') (hm : c' ≤ maxLen) : SR size W H a k c' ((l.take k).map f) := by
  rw [List.map_take]; exact h.take hk hc hm
theorem rangeAt_pre {b off m : Nat} {cs : List Value} (h : w.rangeAt b off cs) : w.rangeAt b off (cs.take m) := fun j v hj => by
  rw [List.getElem?_take] at hj
  split at hj
  · exact h j v hj
  · cases hj
theorem rangeAt_old {w0 : World} (hs : sat W (old w0 :: H) w) {b off : Nat} {cs : List Value} (h : w0.rangeAt b off cs) : w.rangeAt b off cs := fun j v hj => hs.old_cell (h j v hj)
theorem RowsAt.sr {w0 : World} (h : RowsAt w0 size a L) (h1 : n = L.length) (h2 : n ≤ c) (h3 : c ≤ maxLen) (W : World) (H : List HProp) : SR size W (old w0 :: H) a n c L :=
  ⟨h1, h2, h3, fun w' hs i cs hi => by
    obtain ⟨e1, b, off, e2, h4⟩ := h i cs hi
    exact ⟨e1, b, off, e2, rangeAt_old hs h4⟩⟩

theorem flat_get : ∀ (L : List (List Value)) (i j : Nat) (cs : List Value), (∀ r ∈ L, r.length = size) → L[i]? = some cs → j < size → L.flatten[i * size + j]? = cs[j]?
  | [], i, j, cs, _, h, _ => by simp at h
  | r :: L, 0, j, cs, hl, h, hj => by
    simp at h
    subst h
    have := hl r (by simp)
    rw [List.flatten_cons, Nat.zero_mul, Nat.zero_add, List.getElem?_append_left (by omega)]
  | r :: L, i + 1, j, cs, hl, h, hj => by
    have h0 := hl r (by simp)
    have ih := flat_get L i j cs (fun r hr => hl r (by simp [hr])) (by simpa using h) hj
    rw [List.flatten_cons, List.getElem?_append_right (by rw [h0, Nat.add_mul]; omega), ← ih]
    congr 1
    rw [h0, Nat.add_mul]; omega
theorem flat_len : ∀ (L : List (List Value)), (∀ r ∈ L, r.length = size) → L.flatten.length = L.length * size
  | [], _ => by simp
  | r :: L, h => by rw [List.flatten_cons, List.length_append, flat_len L (fun r hr => h r (by simp [hr])), h r (by simp), List.length_cons, Nat.add_mul]; omega
theorem SR.of_own {T : TypeId} {ad : Option Addr} (hs : sat W (own T size (.slice ad n c) n L.flatten :: H) w) (hp : 0 < size) (hl : ∀ r ∈ L, r.length = size) : SR size W (own T size (.slice ad n c) n L.flatten :: H) ad n c L := by
  have hn : n = L.length := by
    have h1 := hs.own_cases.1
    rw [flat_len L hl] at h1
    exact (Nat.eq_of_mul_eq_mul_right hp h1).symm
  have hc := hs.own_cases.2
  refine ⟨hn, ?_, ?_, fun w' hw i cs hi => ⟨hl cs (List.mem_of_getElem? hi), ?_⟩⟩
  · rcases hc with ⟨e, rfl, _⟩ | ⟨b, cap, cur, e, h1, h2, _⟩
    · cases e; exact Nat.le_refl _
    · cases e; exact h1
  · rcases hc with ⟨e, rfl, _⟩ | ⟨b, cap, cur, e, h1, h2, _⟩
    · cases e; exact Nat.zero_le _
    · cases e; exact h2
  · rcases hc with ⟨e, h0, e2⟩ | ⟨b, cap, cur, e, h1, h2, _⟩
    · have : i < L.length := (List.getElem?_eq_some_iff.1 hi).1
      omega
    · cases e
      refine ⟨b, 0, rfl, fun j v hj => hw.own_cell ?_⟩
      have hcs := hl cs (List.mem_of_getElem? hi)
      have hj' : j < size := by rw [← hcs]; exact (List.getElem?_eq_some_iff.1 hj).1
      rw [Nat.zero_add, flat_get L i j cs hl hi hj', hj]

section
variable {P : Program} {ops : Array Oper} {rest : List Oper} {o : Oper} {a : Act} {Q : Exit → Act → World → Prop} {b i : Nat} {ty : TypeId} {cs : List Value}
/-- A struct is read, its cells being known. -/
theorem ldsc {x : Operand} (ho : o.op = .load ty x) (hw : Region.wanted o (yielded ops a.tmps) = true) (hx : a.eval x = .pointer (some ⟨b, i, none⟩))
    (hv : w.rangeAt b i cs) (ht : rowTy P ty cs.length = true) (h : wpList P ops Q rest (a.put o.dst (.agg cs.toArray)) w) : wpList P ops Q (o :: rest) a w := by
  obtain ⟨d, h1, h2, h3⟩ := rowTy_parts ht
  exact BigFrame.wpList_want hw fun K hK => wp_load_mid ty x ho b i hx cs d hv h1 h2 (by rw [h3]) (hK _ _ h)
theorem ldscq {X : Type} {f : X → World} {x : Operand} {Q : Act → Prop} (ho : o.op = .load ty x) (hw : Region.wanted o (yielded ops a.tmps) = true) (hx : a.eval x = .pointer (some ⟨b, i, none⟩))
    (hv : ∀ x, (f x).rangeAt b i cs) (ht : rowTy P ty cs.length = true) (h : wpQuiet P ops (fun w' => ∃ x : X, w' = f x) Q rest (a.put o.dst (.agg cs.toArray))) : wpQuiet P ops (fun w' => ∃ x : X, w' = f x) Q (o :: rest) a := by
  obtain ⟨d, h1, h2, h3⟩ := rowTy_parts ht
  refine BigFrame.wpQuiet_want hw fun K hK => ⟨_, ?_, hK _ h⟩
  rintro _ ⟨x, rfl⟩
  unfold Oper.quietAt execOp
  simp only [ho, hx, Instr.loadAt, Instr.sureAddr, Sem.run_bind, Sem.run_pure, Result.andThen_ok, run_loadVar_mid (f x) b i ty cs d (hv x) h1 h2 (by rw [h3])]
  exact ⟨rfl, rfl⟩
end
theorem rangeAt_cell {b off j : Nat} {cs : List Value} {v : Value} (h : w.rangeAt b off cs) (hj : cs[j]? = some v) : w.cell? ⟨b, off + j, none⟩ = some v := h j v hj

/-! ## The arguments' readings -/
section
variable {E : Type} {enc : TypeId × Value → E} {P : Program}
/-- What an argument reads as. -/
abbrev Rd (enc : TypeId × Value → E) (P : Program) (w : World) (t : TypeId) (cs : List Value) : Prop := ∃ fuel x, DataW.trod enc P w 0 (fun _ => true) true fuel t cs = some x
theorem rd_slice {t e : TypeId} {sz : Nat} (ht : P.underlying t = some (.slice e)) (hsz : P.cellsOf e = sz) (hpos : 0 < sz) {w : World} {a : Option Addr} {n cap : Nat} (h : Rd enc P w t [.slice a n cap]) :
    ∃ L : List (List Value), n = L.length ∧ n ≤ cap ∧ cap ≤ maxLen ∧ (∀ cs ∈ L, Rd enc P w e cs) ∧ RowsAt w sz a L := by
  obtain ⟨fuel, x, h⟩ := h
  subst hsz
  rcases open_slice ht h with ⟨hcs, _⟩ | ⟨a', len, cap', m, k, D, Pl, hcs, _, hl, hm, hmm, _, hall⟩
  · simp at hcs
    obtain ⟨rfl, rfl, rfl⟩ := hcs
    exact ⟨[], rfl, Nat.le_refl _, Nat.zero_le _, by simp, fun i cs hi => by simp at hi⟩
  · simp at hcs
    obtain ⟨rfl, rfl, rfl⟩ := hcs
    simp at hmm
    subst hmm
    have hex : ∀ i, i < n → ∃ cs', w.cells? 0 (a'.add (i * P.cellsOf e)) (P.cellsOf e) = some cs' ∧ DataW.trod enc P w 0 (fun _ => true) true k e cs' = some (D i, Pl i) := fun i hi => hall i (by omega)
    refine ⟨(List.range n).map fun i => (w.cells? 0 (a'.add (i * P.cellsOf e)) (P.cellsOf e)).getD [], by simp, hl, hm, fun cs hc => ?_, fun i cs hi => ?_⟩
    · obtain ⟨i, hi, rfl⟩ := List.mem_map.1 hc
      obtain ⟨cs', h1, h2⟩ := hex i (by simpa using hi)
      rw [h1]; exact ⟨k, _, h2⟩
    · have hin : i < n := by have := (List.getElem?_eq_some_iff.1 hi).1; simpa using this
      obtain ⟨cs', h1, _⟩ := hex i hin
      have e1 : cs = cs' := by simp [hin, h1] at hi; exact hi.symm
      subst e1
      obtain ⟨hlen, hr⟩ := cells_range h1
      obtain ⟨b, off, ea, hr⟩ := hr hpos
      refine ⟨hlen, ?_⟩
      obtain ⟨cs0, h3, _⟩ := hex 0 (by omega)
      obtain ⟨_, hr0⟩ := cells_range h3
      obtain ⟨b0, off0, e0, _⟩ := hr0 hpos
      rw [Nat.zero_mul] at e0
      simp [Addr.add] at e0
      subst e0
      rw [add_none] at ea
      cases ea
      exact ⟨b, off0, rfl, hr⟩
theorem rd_bool {t : TypeId} (ht : P.underlying t = some .bool) {w : World} {cs : List Value} (h : Rd enc P w t cs) : ∃ b, cs = [.bool b] := by
  obtain ⟨fuel, x, h⟩ := h
  obtain ⟨b, rfl, _⟩ := DataW.trod_bool ht h
  exact ⟨b, rfl⟩
theorem rd_int {t : TypeId} {k : IntKind} (ht : P.underlying t = some (.int k)) {w : World} {cs : List Value} (h : Rd enc P w t cs) : ∃ n, cs = [.int k n] ∧ (Lit.int k n).wf = true := by
  obtain ⟨fuel, x, h⟩ := h
  obtain ⟨n, rfl, _, hw⟩ := DataW.trod_int ht h
  exact ⟨n, rfl, hw⟩
theorem rd_string {t : TypeId} (ht : P.underlying t = some .string) {w : World} {cs : List Value} (h : Rd enc P w t cs) : ∃ s : ByteArray, cs = [.string s] ∧ s.size ≤ maxLen := by
  obtain ⟨fuel, x, h⟩ := h
  obtain ⟨n, rfl, _, hw⟩ := DataW.trod_string ht h
  exact ⟨n, rfl, hw⟩
theorem rd_slices {t e : TypeId} (ht : P.underlying t = some (.slice e)) {w : World} {cs : List Value} (h : Rd enc P w t cs) : ∃ a n cap, cs = [.slice a n cap] := by
  obtain ⟨fuel, x, h⟩ := h
  rcases open_slice ht h with ⟨rfl, _⟩ | ⟨a', len, cap', m, k, D, Pl, rfl, _⟩
  · exact ⟨_, _, _, rfl⟩
  · exact ⟨_, _, _, rfl⟩
theorem rd_struct {t : TypeId} {fs : Array Field} (ht : P.underlying t = some (.struct fs)) {w : World} {cs : List Value} (h : Rd enc P w t cs) :
    cs.length = P.cellsOf t ∧ ∀ (i : Nat) (f : Field), fs[i]? = some f → Rd enc P w f.type ((cs.drop f.offset).take (P.cellsOf f.type)) := by
  obtain ⟨fuel, x, h⟩ := h
  obtain ⟨xs, n, _, _, hl, hx, hf⟩ := DataW.trod_struct ht h
  refine ⟨hl, fun i f hi => ?_⟩
  have h1 := hf i f hi
  have hi' : i < xs.length := by rw [hx]; exact (Array.getElem?_eq_some_iff.1 hi).1
  rw [List.getElem?_eq_getElem hi'] at h1
  exact ⟨n, _, h1⟩
/-- The elements of a list, each with what was found for it. -/
theorem rd_map {α : Type} {f : α → List Value} : ∀ {L : List (List Value)}, (∀ cs ∈ L, ∃ x, cs = f x) → ∃ l : List α, L = l.map f
  | [], _ => ⟨[], rfl⟩
  | cs :: L, h => by
    obtain ⟨x, hx⟩ := h cs (by simp)
    obtain ⟨l, hl⟩ := rd_map (L := L) (fun c hc => h c (by simp [hc]))
    exact ⟨x :: l, by rw [hx, hl]; rfl⟩
end
end Go.Mem
