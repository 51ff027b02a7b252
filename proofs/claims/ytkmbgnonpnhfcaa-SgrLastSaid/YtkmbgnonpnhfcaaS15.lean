/- Small laws of the walks of law 5 (the same as stand ahead of S11's walk). -/
import Derived.Test.YtkmbgnonpnhfcaaS9
import Derived.Test.YtkmbgnonpnhfcaaSy
import Derived.Deep.DeepCutAuto
namespace Go.Proofs.Ytkmbgnonpnhfcaa
open Go.RowKit Go.Mem Go.Sgr
variable {W w : World} {H : List HProp}
theorem SL.reads {ad : Option Addr} {n cp : Nat} {l : List Int} (h : SL W H ad n cp l) (hs : sat W H w) : Reads w (.slice ad n cp) (ints l) := h.2.2.2 w hs
theorem SL.at {b off : Nat} {n c : Nat} {l : List Int} (h : SL W H (some ⟨b, off, none⟩) n c l) : ∀ i x, l[i]? = some x → ∀ w', sat W H w' → w'.cell? ⟨b, off + i, none⟩ = some (.int .i64 x) := by
  obtain ⟨_, _, _, hr⟩ := h
  intro i x hx w' hw
  obtain ⟨_, _, h2⟩ := reads_i64 (hr w' hw)
  obtain ⟨b2, off2, e, h3⟩ := h2 (by rcases l with _ | _; simp at hx; simp)
  cases e
  exact h3 i x hx
theorem SL.ptr {ad : Option Addr} {n c : Nat} {l : List Int} (h : SL W H ad n c l) (hs : sat W H w) (hn : 0 < n) : ∃ b off, ad = some ⟨b, off, none⟩ := by
  obtain ⟨rfl, _, _, hr⟩ := h
  obtain ⟨_, _, h1⟩ := reads_i64 (hr w hs)
  obtain ⟨b, off, rfl, _⟩ := h1 hn
  exact ⟨b, off, rfl⟩
theorem SL.get {ad : Option Addr} {n cp : Nat} {l : List Int} (h : SL W H ad n cp l) (hs : sat W H w) {k : Nat} (hk : k < n) : ∃ b off, ad = some ⟨b, off, none⟩ ∧ ∀ w', sat W H w' → w'.cell? ⟨b, off + k, none⟩ = some (.int .i64 (l.getD k 0)) := by
  obtain ⟨b, off, rfl⟩ := h.ptr hs (by omega)
  refine ⟨b, off, rfl, h.at k _ ?_⟩
  have : k < l.length := by rw [← h.1]; exact hk
  rw [List.getD_eq_getElem?_getD, List.getElem?_eq_getElem this]; rfl
theorem ldsq {X : Type} {f : X → World} {P : Program} {o : Oper} {ops : Array Oper} {rest : List Oper} {a : Act} {Q : Act → Prop} {b i : Nat} {T ty : TypeId} {l cs : List Value} {x : Operand} (n : Nat) (hf : ∀ x, sat W (cel b T l :: H) (f x)) (ho : o.op = .load ty x) (hw : Region.wanted o (yielded ops a.tmps) = true) (hx : a.eval x = .pointer (some ⟨b, i, none⟩))
    (ht : rowTy P ty n = true) (hv : (l.drop i).take n = cs) (hn : cs.length = n) (h : wpQuiet P ops (fun w' => ∃ x : X, w' = f x) Q rest (a.put o.dst (.agg cs.toArray))) : wpQuiet P ops (fun w' => ∃ x : X, w' = f x) Q (o :: rest) a := by
  obtain ⟨d, h1, h2, h3⟩ := rowTy_parts ht
  refine BigFrame.wpQuiet_want hw fun K hK => ⟨_, ?_, hK _ h⟩
  rintro _ ⟨x, rfl⟩
  unfold Oper.quietAt execOp
  simp only [ho, hx, Instr.loadAt, Instr.sureAddr, Sem.run_bind, Sem.run_pure, Result.andThen_ok, run_loadVar_mid (f x) b i ty cs d ((hf x).cel_range hv) h1 h2 (by rw [h3, hn])]
  exact ⟨rfl, rfl⟩
theorem apply_nil (a : At) : apply a [] = ⟨0, 0, 0⟩ := rfl
theorem mayB_yes {a : At} (h : may a) : mayB a = true := by unfold mayB; exact decide_eq_true h
theorem mayB_no {a : At} (h : ¬ may a) : mayB a = false := by unfold mayB; exact decide_eq_false h
attribute [local irreducible] World.setCell World.alloc World.drew World.drewN Calls sat cel own blk old wpQuiet flj no go plain follows SL wf apply numbers mayB may
abbrev Z : List Value := [.int .u32 0, .int .u32 0, .int .u16 0]
theorem zfacts {b : Nat} (hs : sat W (cel b 25 Z :: H) w) : (w.cell? ⟨b, 0, none⟩ = some (.int .u32 0) ∧ w.cell? ⟨b, 1, none⟩ = some (.int .u32 0) ∧ w.cell? ⟨b, 2, none⟩ = some (.int .u16 0)) ∧ w.frozen? ⟨b, 0, none⟩ = false ∧ w.frozen? ⟨b, 1, none⟩ = false ∧ w.frozen? ⟨b, 2, none⟩ = false := by
  refine ⟨⟨hs.cel_cell rfl, hs.cel_cell rfl, hs.cel_cell rfl⟩, ?_, ?_, ?_⟩ <;> (unfold cel at hs; exact hs.frozen)
theorem alloc_size (w : World) (o : Obj) : (w.alloc o).heap.size = w.heap.size + 1 := by unfold World.alloc; exact Array.size_push ..
theorem made2 (hs : sat W H w) (T1 : TypeId) (l1 : List Value) (T2 : TypeId) (l2 : List Value) : sat W (cel (w.heap.size + 1) T2 l2 :: cel w.heap.size T1 l1 :: H) ((w.alloc (.cells l1.toArray T1)).alloc (.cells l2.toArray T2)) := by
  have h := (hs.made (T := T1) (l := l1)).made (T := T2) (l := l2)
  rwa [alloc_size] at h
theorem set3 {b : Nat} (hs : sat W (cel b 25 Z :: H) w) (x y z : Int) : sat W (cel b 25 (atL ⟨x, y, z⟩) :: H) (((w.setCell ⟨b, 0, none⟩ (.int .u32 x)).setCell ⟨b, 1, none⟩ (.int .u32 y)).setCell ⟨b, 2, none⟩ (.int .u16 z)) :=
  ((hs.cel_set (i := 0) (.int .u32 x)).cel_set (i := 1) (.int .u32 y)).cel_set (i := 2) (.int .u16 z)
theorem sapp0 {E : Prop} {P : Program} {o : Oper} {ops : Array Oper} {a : Act} {Q : Exit → Act → World → Prop} {K : Act → World → Prop} {s x : Operand} {t e : TypeId} {bytes m g : Nat} {v : Value} {xs : List Value} (hs : sat W (cel g e [] :: H) w)
    (hgd : o.guard = none) (ho : o.op = .call { callee := .builtin .append, args := #[s, x], argTypes := #[t, t] })
    (hev : a.eval s = .slice (some ⟨g, 0, none⟩) 0 0) (hx : a.eval x = v) (ht : SlTy P t e 1 bytes) (hr : Reads w v xs) (h1 : ∀ u ∈ xs, u.oneCell' = true) (hm : xs.length = m)
    (hbytes : m * bytes ≤ 140737488355328) (h63 : m ≤ maxLen)
    (h : ∀ a' c' w', sat W (own e 1 (.slice a' m c') m xs :: H) w' → K (a.put o.dst (.slice a' m c')) w') :
    if Region.wanted o (yielded ops a.tmps) = true then Oper.wp P o a w K Q else E := by
  refine sappb (k := 0) hs rfl hgd ho hev hx ht hr h1 hm (by rwa [Nat.zero_add]) (by rwa [Nat.zero_add]) ?_
  rw [Nat.zero_add]; exact h
theorem ints_append (l m : List Int) : ints l ++ ints m = ints (l ++ m) := by simp
theorem sl_of_row {w0 : World} {a : Option Addr} {len cap : Nat} {zs : List Int} (h : IsRow .i64 w0 a len cap zs) : ∃ l, l.length = len ∧ ∀ (W : World) (H : List HProp), SL W (old w0 :: H) a len cap l := by
  unfold SL
  rcases h with ⟨rfl, rfl, rfl, rfl⟩ | ⟨x, rfl, hl, hm, hz, hc, hw⟩
  · exact ⟨[], rfl, fun W H => ⟨rfl, Nat.le_refl _, Nat.zero_le _, fun _ _ => ⟨Nat.zero_le _, none, 0, rfl, fun h => (h rfl).elim⟩⟩⟩
  · refine ⟨zs.take len, by simp; omega, fun W H => ⟨by simp; omega, hl, hm, fun w' hs => ?_⟩⟩
    have hlen : (zs.take len).length = len := by simp; omega
    refine ⟨by rw [List.length_map]; omega, some x, cap, by rw [List.length_map, hlen], fun hne => ?_⟩
    have hp : 0 < zs.length := by
      cases zs with
      | nil => exact (hne (by simp)).elim
      | cons _ _ => simp
    have h0 := hc 0 hp
    obtain ⟨b, off, spot⟩ := x
    have hspot : spot = none := by simpa [Addr.add] using World.cell?_spot h0
    subst hspot
    refine ⟨b, off, rfl, fun i u hu => ?_⟩
    have hi : i < zs.length := by
      have := (List.getElem?_eq_some_iff.1 hu).1; rw [List.length_map, hlen] at this; omega
    have := hc i hi
    rw [add_none] at this
    rw [hs.old_cell this, ← hu]
    have hi2 : i < len := by have := (List.getElem?_eq_some_iff.1 hu).1; rwa [List.length_map, hlen] at this
    simp [List.getElem?_take, hi2, hi]
end Go.Proofs.Ytkmbgnonpnhfcaa
