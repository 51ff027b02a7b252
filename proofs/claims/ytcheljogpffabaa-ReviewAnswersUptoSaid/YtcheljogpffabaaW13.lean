/- Readings of arguments with their data: what they hold, counted. -/
import Derived.Test.YtcheljogpffabaaRows
import Derived.Test.YtcheljogpffabaaSs
namespace Go.Proofs.Ytcheljogpffabaa
open Go.RowKit Go.Mem Go.Deep
section
variable {E : Type} {enc : TypeId × Value → E} {P : Program}
/-- What an argument reads as: the datum d. -/
abbrev RdD (enc : TypeId × Value → E) (P : Program) (w : World) (t : TypeId) (cs : List Value) (d : DataW E) : Prop := ∃ fuel pl, DataW.trod enc P w 0 (fun _ => true) true fuel t cs = some (d, pl)
theorem RdD.rd {w : World} {t : TypeId} {cs : List Value} {d : DataW E} (h : RdD enc P w t cs d) : Rd enc P w t cs := by
  obtain ⟨f, pl, h⟩ := h
  exact ⟨f, _, h⟩
theorem bulk_one (d : DataW E) : 1 ≤ Rows.uptoBulk d := by
  cases d with
  | lit l => cases l <;> simp [Rows.uptoBulk]
  | nil => simp [Rows.uptoBulk]
  | ptr d => simp [Rows.uptoBulk]
  | slice elems spare => simp [Rows.uptoBulk]
  | agg parts => simp [Rows.uptoBulk]
  | iface t d => simp [Rows.uptoBulk]
  | map entries => simp [Rows.uptoBulk]
  | held h => simp [Rows.uptoBulk]
theorem bulk_part {d : DataW E} {l : List (DataW E)} (h : d ∈ l) : Rows.uptoBulk d ≤ Rows.uptoBulkAll l := by
  induction l with
  | nil => cases h
  | cons x r ih =>
    simp only [Rows.uptoBulkAll]
    cases List.mem_cons.1 h with
    | inl e => subst e; omega
    | inr e => have := ih e; omega
theorem bulk_len (l : List (DataW E)) : l.length ≤ Rows.uptoBulkAll l := by
  induction l with
  | nil => simp [Rows.uptoBulkAll]
  | cons x r ih => have := bulk_one x; simp only [Rows.uptoBulkAll, List.length_cons]; omega
/-- What is held by rows, each with its datum. -/
theorem bulk_rows {α : Type} {f : α → Nat} {R : α → DataW E → Prop} (hR : ∀ x d, R x d → f x ≤ Rows.uptoBulk d) : ∀ (l : List α) (ds : List (DataW E)), l.length = ds.length → (∀ (i : Nat) (x : α) (d : DataW E), l[i]? = some x → ds[i]? = some d → R x d) → (l.map f).sum ≤ Rows.uptoBulkAll ds
  | [], _, _, _ => by simp
  | x :: l, [], h, _ => by simp at h
  | x :: l, d :: ds, h, hx => by
    have h1 := hR x d (hx 0 x d rfl rfl)
    have h2 := bulk_rows hR l ds (by simpa using h) (fun i y e hy he => hx (i + 1) y e hy he)
    simp only [List.map_cons, List.sum_cons, Rows.uptoBulkAll]
    omega
theorem rdd_slice {t e : TypeId} {sz : Nat} (ht : P.underlying t = some (.slice e)) (hsz : P.cellsOf e = sz) (hpos : 0 < sz) {w : World} {a : Option Addr} {n cap : Nat} {d : DataW E} (h : RdD enc P w t [.slice a n cap] d) :
    ∃ (L : List (List Value)) (Ds : List (DataW E)), n = L.length ∧ Ds.length = L.length ∧ n ≤ cap ∧ cap ≤ maxLen ∧ (∀ (i : Nat) (cs : List Value) (di : DataW E), L[i]? = some cs → Ds[i]? = some di → RdD enc P w e cs di) ∧ RowsAt w sz a L ∧ Rows.uptoBulkAll Ds + 1 ≤ Rows.uptoBulk d := by
  obtain ⟨fuel, x, h⟩ := h
  subst hsz
  rcases open_slice ht h with ⟨hcs, hx⟩ | ⟨a', len, cap', m, k, D, Pl, hcs, _, hl, hm, hmm, hx, hall⟩
  · simp at hcs
    obtain ⟨rfl, rfl, rfl⟩ := hcs
    exact ⟨[], [], rfl, rfl, Nat.le_refl _, Nat.zero_le _, by simp, fun i cs hi => by simp at hi, by simp only [Rows.uptoBulkAll]; exact bulk_one d⟩
  · simp at hcs
    obtain ⟨rfl, rfl, rfl⟩ := hcs
    simp at hmm
    subst hmm
    have hd : d = .slice ((List.range n).map D) ((List.range (m - n)).map fun j => D (n + j)) := congrArg Prod.fst hx
    have hex : ∀ i, i < n → ∃ cs', w.cells? 0 (a'.add (i * P.cellsOf e)) (P.cellsOf e) = some cs' ∧ DataW.trod enc P w 0 (fun _ => true) true k e cs' = some (D i, Pl i) := fun i hi => hall i (by omega)
    refine ⟨(List.range n).map fun i => (w.cells? 0 (a'.add (i * P.cellsOf e)) (P.cellsOf e)).getD [], (List.range n).map D, by simp, by simp, hl, hm, fun i cs di hi hdi => ?_, fun i cs hi => ?_, by rw [hd]; simp only [Rows.uptoBulk]; omega⟩
    · have hin : i < n := by have := (List.getElem?_eq_some_iff.1 hi).1; simpa using this
      obtain ⟨cs', h1, h2⟩ := hex i hin
      have e1 : cs = cs' := by simp [hin, h1] at hi; exact hi.symm
      have e2 : di = D i := by simp [hin] at hdi; exact hdi.symm
      rw [e1, e2]; exact ⟨k, _, h2⟩
    · have hin : i < n := by have := (List.getElem?_eq_some_iff.1 hi).1; simpa using this
      obtain ⟨cs', h1, _⟩ := hex i hin
      have e1 : cs = cs' := by simp [hin, h1] at hi; exact hi.symm
      subst e1
      obtain ⟨hlen, hr⟩ := cells_range h1
      obtain ⟨b, off, ea, hr⟩ := hr hpos
      refine ⟨hlen, ?_⟩
      obtain ⟨cs0, h3, _⟩ := hex 0 (by omega)
      obtain ⟨_, hr0⟩ := cells_range h3
      obtain ⟨b0, off0, e0, _⟩ := hr0 hpos
      rw [Nat.zero_mul] at e0
      simp [Addr.add] at e0
      subst e0
      rw [add_none] at ea
      cases ea
      exact ⟨b, off0, rfl, hr⟩
theorem rdd_struct {t : TypeId} {fs : Array Field} (ht : P.underlying t = some (.struct fs)) {w : World} {cs : List Value} {d : DataW E} (h : RdD enc P w t cs d) :
    ∃ ds : List (DataW E), cs.length = P.cellsOf t ∧ Rows.uptoBulkAll ds + 1 ≤ Rows.uptoBulk d ∧ ∀ (i : Nat) (f : Field), fs[i]? = some f → ∃ di, ds[i]? = some di ∧ RdD enc P w f.type ((cs.drop f.offset).take (P.cellsOf f.type)) di := by
  obtain ⟨fuel, x, h⟩ := h
  obtain ⟨xs, n, _, he, hl, hx, hf⟩ := DataW.trod_struct ht h
  have hd : d = .agg (xs.map (·.1)) := congrArg Prod.fst he
  refine ⟨xs.map (·.1), hl, by rw [hd]; simp only [Rows.uptoBulk]; exact Nat.le_refl _, fun i f hi => ?_⟩
  have h1 := hf i f hi
  have hi' : i < xs.length := by rw [hx]; exact (Array.getElem?_eq_some_iff.1 hi).1
  rw [List.getElem?_eq_getElem hi'] at h1
  exact ⟨(xs[i]).1, by simp [hi'], n, _, h1⟩
end
end Go.Proofs.Ytcheljogpffabaa
