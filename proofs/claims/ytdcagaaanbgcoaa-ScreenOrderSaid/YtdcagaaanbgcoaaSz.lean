/-
  Slices of integers that stand in every world that meets what is known; the small logic of memory.
-/
import Derived.Test.YtdcagaaanbgcoaaSy
namespace Go.Mem
open Go.RowKit
variable {W w : World} {H : List HProp} {kd : IntKind}
def lenOf : Value → Nat | .slice _ n _ => n | _ => 0
/-- A slice that stands in every world that meets H. -/
def SK (kd : IntKind) (W : World) (H : List HProp) (a : Option Addr) (n c : Nat) (l : List Int) : Prop := n = l.length ∧ n ≤ c ∧ c ≤ maxLen ∧ ∀ w', sat W H w' → Reads w' (.slice a n c) (l.map (Value.int kd))
theorem reads_k {l : List Int} {w : World} {ad : Option Addr} {n c : Nat} (h : Reads w (.slice ad n c) (l.map (Value.int kd))) : n = l.length ∧ l.length ≤ maxLen ∧ (0 < l.length → ∃ b off, ad = some ⟨b, off, none⟩ ∧ ∀ i x, l[i]? = some x → w.cell? ⟨b, off + i, none⟩ = some (.int kd x)) := by
  obtain ⟨h0, a1, c1, e, h1⟩ := h
  cases e
  rw [List.length_map] at *
  refine ⟨rfl, h0, fun hl => ?_⟩
  obtain ⟨b, off, e, h2⟩ := h1 (by intro e; cases l with | nil => simp at hl | cons => simp at e)
  exact ⟨b, off, e, fun i x hx => h2 i _ (by simp [hx])⟩
theorem reads_kdrop {l : List Int} {w : World} {b off n c c' k : Nat} (h : Reads w (.slice (some ⟨b, off, none⟩) n c) (l.map (Value.int kd))) (hk : k ≤ l.length) : Reads w (.slice (some ⟨b, off + k, none⟩) (l.length - k) c') ((l.drop k).map (Value.int kd)) := by
  obtain ⟨_, hl, hc⟩ := reads_k h
  refine ⟨by rw [List.length_map, List.length_drop]; omega, some ⟨b, off + k, none⟩, c', by rw [List.length_map, List.length_drop], fun hne => ⟨b, off + k, rfl, fun i u hu => ?_⟩⟩
  have hpos : 0 < l.length := by
    cases l with
    | nil => simp at hne
    | cons => simp
  obtain ⟨b2, off2, e, h2⟩ := hc hpos
  cases e
  rw [List.getElem?_map, List.getElem?_drop] at hu
  cases hx : l[k + i]? with
  | none => rw [hx] at hu; cases hu
  | some x =>
    rw [hx] at hu
    cases hu
    rw [Nat.add_assoc]; exact h2 _ _ hx
theorem SK.reads {ad : Option Addr} {n cp : Nat} {l : List Int} (h : SK kd W H ad n cp l) (hs : sat W H w) : Reads w (.slice ad n cp) (l.map (Value.int kd)) := h.2.2.2 w hs
theorem SK.drop {b off : Nat} {n c k : Nat} {l : List Int} (h : SK kd W H (some ⟨b, off, none⟩) n c l) (hk : k ≤ n) : SK kd W H (some ⟨b, off + k, none⟩) (n - k) (c - k) (l.drop k) := by
  obtain ⟨rfl, h1, h2, hr⟩ := h
  exact ⟨by simp, by omega, by omega, fun w' hw => reads_kdrop (hr w' hw) hk⟩
theorem reads_take {l : List Value} {w : World} {a : Option Addr} {n c c' k : Nat} (h : Reads w (.slice a n c) l) (hk : k ≤ l.length) : Reads w (.slice a k c') (l.take k) := by
  obtain ⟨h0, a1, c1, e, h1⟩ := h
  cases e
  have hl : (l.take k).length = k := by simp; omega
  refine ⟨by omega, a, c', by rw [hl], fun hne => ?_⟩
  obtain ⟨b, off, e, h2⟩ := h1 (by intro e; rw [e] at hne; simp at hne)
  refine ⟨b, off, e, fun i u hu => h2 i u ?_⟩
  have hi : i < k := by have := (List.getElem?_eq_some_iff.1 hu).1; omega
  rwa [List.getElem?_take, if_pos hi] at hu
theorem SK.take {a : Option Addr} {n c c' k : Nat} {l : List Int} (h : SK kd W H a n c l) (hk : k ≤ n) (hc : k ≤ c') (hm : c' ≤ maxLen) : SK kd W H a k c' (l.take k) := by
  obtain ⟨rfl, h1, h2, hr⟩ := h
  exact ⟨by simp; omega, hc, hm, fun w' hw => by rw [List.map_take]; exact reads_take (hr w' hw) (by rw [List.length_map]; exact hk)⟩
theorem SK.empty {a : Option Addr} {l : List Int} (h : l = []) : SK kd W H a 0 0 l := by
  subst h
  exact ⟨rfl, Nat.le_refl _, Nat.zero_le _, fun _ _ => ⟨Nat.zero_le _, a, 0, rfl, fun h => (h rfl).elim⟩⟩
theorem SK.more {A : HProp} {a : Option Addr} {n c : Nat} {l : List Int} (h : SK kd W H a n c l) : SK kd W (A :: H) a n c l := ⟨h.1, h.2.1, h.2.2.1, fun w' hs => h.2.2.2 w' hs.drop⟩
theorem SK.mono {H' : List HProp} {a : Option Addr} {n c : Nat} {l : List Int} (h : SK kd W H a n c l) (f : ∀ w', sat W H' w' → sat W H w') : SK kd W H' a n c l := ⟨h.1, h.2.1, h.2.2.1, fun w' hs => h.2.2.2 w' (f w' hs)⟩
theorem SK.of_own {T : TypeId} {ad : Option Addr} {n cp : Nat} {l : List Int} (hs : sat W (own T 1 (.slice ad n cp) n (l.map (Value.int kd)) :: H) w) : SK kd W (own T 1 (.slice ad n cp) n (l.map (Value.int kd)) :: H) ad n cp l := by
  have hr := fun w' (h : sat W (own T 1 (.slice ad n cp) n (l.map (Value.int kd)) :: H) w') => h.own_reads
  refine ⟨by have := (hr w hs).2; rwa [List.length_map] at this, ?_, ?_, fun w' h => (hr w' h).1⟩
  all_goals
    obtain ⟨hl, hc⟩ := hs.own_cases
    rcases hc with ⟨e, rfl, _⟩ | ⟨b, cap, cur, e, h1, h2, _⟩
    · cases e; simp
    · cases e; first | exact h1 | exact h2
theorem SK.of_cel {b : Nat} {T : TypeId} {l : List Int} {n : Nat} (e : n = l.length) (hl : n ≤ maxLen) : SK kd W (cel b T (l.map (Value.int kd)) :: H) (some ⟨b, 0, none⟩) n n l := by
  subst e
  refine ⟨rfl, Nat.le_refl _, hl, fun w' hs => ?_⟩
  have := hs.cel_reads (cap := l.length) (by rw [List.length_map]; exact hl)
  rwa [List.length_map] at this
theorem SK.at {b off : Nat} {n c : Nat} {l : List Int} (h : SK kd W H (some ⟨b, off, none⟩) n c l) : ∀ i x, l[i]? = some x → ∀ w', sat W H w' → w'.cell? ⟨b, off + i, none⟩ = some (.int kd x) := by
  obtain ⟨_, _, _, hr⟩ := h
  intro i x hx w' hw
  obtain ⟨_, _, h2⟩ := reads_k (hr w' hw)
  obtain ⟨b2, off2, e, h3⟩ := h2 (by rcases l with _ | _; simp at hx; simp)
  cases e
  exact h3 i x hx
theorem SK.ptr {ad : Option Addr} {n c : Nat} {l : List Int} (h : SK kd W H ad n c l) (hs : sat W H w) (hn : 0 < n) : ∃ b off, ad = some ⟨b, off, none⟩ := by
  obtain ⟨rfl, _, _, hr⟩ := h
  obtain ⟨_, _, h1⟩ := reads_k (hr w hs)
  obtain ⟨b, off, rfl, _⟩ := h1 hn
  exact ⟨b, off, rfl⟩
theorem SK.get {ad : Option Addr} {n cp : Nat} {l : List Int} (h : SK kd W H ad n cp l) (hs : sat W H w) {k : Nat} (hk : k < n) : ∃ b off, ad = some ⟨b, off, none⟩ ∧ ∀ w', sat W H w' → w'.cell? ⟨b, off + k, none⟩ = some (.int kd (l.getD k 0)) := by
  obtain ⟨b, off, rfl⟩ := h.ptr hs (by omega)
  refine ⟨b, off, rfl, h.at k _ ?_⟩
  have : k < l.length := by rw [← h.1]; exact hk
  rw [List.getD_eq_getElem?_getD, List.getElem?_eq_getElem this]; rfl
theorem sk_of_row {w0 : World} {a : Option Addr} {len cap : Nat} {zs : List Int} (h : IsRow kd w0 a len cap zs) : ∃ l, l.length = len ∧ (∀ x ∈ l, (Lit.int kd x).wf = true) ∧ ∀ (W : World) (H : List HProp), SK kd W (old w0 :: H) a len cap l := by
  unfold SK
  rcases h with ⟨rfl, rfl, rfl, rfl⟩ | ⟨x, rfl, hl, hm, hz, hc, hw⟩
  · exact ⟨[], rfl, by simp, fun W H => ⟨rfl, Nat.le_refl _, Nat.zero_le _, fun _ _ => ⟨Nat.zero_le _, none, 0, rfl, fun h => (h rfl).elim⟩⟩⟩
  · refine ⟨zs.take len, by simp; omega, fun y hy => hw y (List.mem_of_mem_take hy), fun W H => ⟨by simp; omega, hl, hm, fun w' hs => ?_⟩⟩
    have hlen : (zs.take len).length = len := by simp; omega
    refine ⟨by rw [List.length_map]; omega, some x, cap, by rw [List.length_map, hlen], fun hne => ?_⟩
    have hp : 0 < zs.length := by
      cases zs with
      | nil => exact (hne (by simp)).elim
      | cons _ _ => simp
    have h0 := hc 0 hp
    obtain ⟨b, off, spot⟩ := x
    have hspot : spot = none := by simpa [Addr.add] using World.cell?_spot h0
    subst hspot
    refine ⟨b, off, rfl, fun i u hu => ?_⟩
    have hi : i < zs.length := by
      have := (List.getElem?_eq_some_iff.1 hu).1; rw [List.length_map, hlen] at this; omega
    have := hc i hi
    rw [add_none] at this
    rw [hs.old_cell this, ← hu]
    have hi2 : i < len := by have := (List.getElem?_eq_some_iff.1 hu).1; rwa [List.length_map, hlen] at this
    simp [hi2, hi]
theorem ints_ok {l : List Int} : ∀ u ∈ l.map (Value.int kd), u.oneCell' = true := by
  intro u hu; obtain ⟨n, _, rfl⟩ := List.mem_map.1 hu; rfl
theorem alloc_size (w : World) (o : Obj) : (w.alloc o).heap.size = w.heap.size + 1 := by unfold World.alloc; exact Array.size_push ..
theorem made2 (hs : sat W H w) (T1 : TypeId) (l1 : List Value) (T2 : TypeId) (l2 : List Value) : sat W (cel (w.heap.size + 1) T2 l2 :: cel w.heap.size T1 l1 :: H) ((w.alloc (.cells l1.toArray T1)).alloc (.cells l2.toArray T2)) := by
  have h := (hs.made (T := T1) (l := l1)).made (T := T2) (l := l2)
  rwa [alloc_size] at h
/-- A struct is read in a quiet region. -/
theorem ldsq {X : Type} {f : X → World} {P : Program} {o : Oper} {ops : Array Oper} {rest : List Oper} {a : Act} {Q : Act → Prop} {b i : Nat} {T ty : TypeId} {l cs : List Value} {x : Operand} (n : Nat) (hf : ∀ x, sat W (cel b T l :: H) (f x)) (ho : o.op = .load ty x) (hw : Region.wanted o (yielded ops a.tmps) = true) (hx : a.eval x = .pointer (some ⟨b, i, none⟩))
    (ht : rowTy P ty n = true) (hv : (l.drop i).take n = cs) (hn : cs.length = n) (h : wpQuiet P ops (fun w' => ∃ x : X, w' = f x) Q rest (a.put o.dst (.agg cs.toArray))) : wpQuiet P ops (fun w' => ∃ x : X, w' = f x) Q (o :: rest) a := by
  obtain ⟨d, h1, h2, h3⟩ := rowTy_parts ht
  refine BigFrame.wpQuiet_want hw fun K hK => ⟨_, ?_, hK _ h⟩
  rintro _ ⟨x, rfl⟩
  unfold Oper.quietAt execOp
  simp only [ho, hx, Instr.loadAt, Instr.sureAddr, Sem.run_bind, Sem.run_pure, Result.andThen_ok, run_loadVar_mid (f x) b i ty cs d ((hf x).cel_range hv) h1 h2 (by rw [h3, hn])]
  exact ⟨rfl, rfl⟩
end Go.Mem
