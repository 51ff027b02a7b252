/-
  Slices that came in, in the small logic of memory: appended to one's own, read as bytes.
-/
import Derived.Test.YtdcagaaanbgcoaaSl
namespace Go.Mem
open Go.RowKit
variable {W w : World} {H : List HProp} {P : Program} {o : Oper} {ops : Array Oper} {rest : List Oper} {a : Act} {Q : Exit → Act → World → Prop}
/-! ## append of a slice that reads as a list, nil or not -/
theorem run_append_nilc {t ty e : TypeId} {size bytes n c : Nat} {v : Value} {xs : List Value} (ht : SlTy P t e size bytes)
    (hs : sat W (own e size v n xs :: H) w) : (Builtin.append_ #[t, t] ty #[v, .slice none 0 c]).run P w = .ok v w := by
  obtain ⟨hund, ⟨i, z, hi, hz, hsize, hby, hzs⟩, hpos⟩ := ht
  rcases hs.own_cases.2 with ⟨rfl, rfl, rfl⟩ | ⟨g, cap, cur, rfl, hnc, hcm, hcs, htake, hb⟩
  · simp [Builtin.append_, run_underlying hund, sizeOf, typeInfo, hi, Builtin.lenOf, Builtin.firstCells]
  · simp [Builtin.append_, run_underlying hund, sizeOf, typeInfo, hi, Builtin.lenOf, Builtin.firstCells, hnc, storeCells]
theorem appr {s x : Operand} {t e : TypeId} {bytes n : Nat} {v0 v : Value} {xs0 xs : List Value} (hs : sat W (own e 1 v0 n xs0 :: H) w)
    (ho : o.op = .call { callee := .builtin .append, args := #[s, x], argTypes := #[t, t] }) (hw : Region.wanted o (yielded ops a.tmps) = true)
    (hev : a.eval s = v0) (hx : a.eval x = v) (ht : SlTy P t e 1 bytes) (hr : Reads w v xs) (h1 : ∀ u ∈ xs, u.oneCell' = true)
    (hbytes : (n + xs.length) * bytes ≤ 140737488355328) (h63 : n + xs.length ≤ maxLen)
    (h : ∀ a' c' w', sat W (own e 1 (.slice a' (n + xs.length) c') (n + xs.length) (xs0 ++ xs) :: H) w' → wpList P ops Q rest (a.put o.dst (.slice a' (n + xs.length) c')) w') : wpList P ops Q (o :: rest) a w := by
  obtain ⟨hl, ad, cap, rfl, hc⟩ := hr
  cases xs with
  | nil =>
    cases ad with
    | none =>
      have hr := run_append_nilc (P := P) (ty := o.type) (c := cap) ht hs
      refine BigFrame.wpList_want hw fun K hK => ?_
      unfold Oper.wp execOp
      simp only [ho, resolve, invoke, builtin, Sem.run_bind, Sem.run_pure, Result.andThen_ok, List.map_toArray, List.map_cons, List.map_nil, hev, hx, List.length_nil, hr]
      obtain ⟨a', c', rfl⟩ := hs.own_slice
      exact hK _ _ (h a' c' w (by simpa using hs))
    | some ad => exact wpList_append_sat hw s x t ho ht hev hs hx (by simp) (by simp) (by simp) hbytes h63 h
  | cons u us =>
    obtain ⟨b, off, rfl, hv⟩ := hc (by simp)
    exact wpList_append_sat hw s x t ho ht hev hs hx (by simp) (fun j u' hu => by rw [add_none]; exact hv j u' hu) h1 hbytes h63 h
theorem nums_one {k : IntKind} {l : List Nat} : ∀ u ∈ nums k l, u.oneCell' = true := by
  intro u hu; obtain ⟨n, _, rfl⟩ := List.mem_map.1 hu; rfl
theorem sat.old_reads {w0 : World} {v : Value} {xs : List Value} (hs : sat W (old w0 :: H) w) (h : Reads w0 v xs) : Reads w v xs := by
  obtain ⟨hl, a, cap, rfl, hc⟩ := h
  refine ⟨hl, a, cap, rfl, fun hn => ?_⟩
  obtain ⟨b, off, rfl, hv⟩ := hc hn
  exact ⟨b, off, rfl, fun i u hu => hs.old_cell (hv i u hu)⟩
theorem sat.cel_own {T : TypeId} {g : Nat} {l : List Value} (hs : sat W (cel g T l :: H) w) (hl : l.length ≤ maxLen) : sat W (own T 1 (.slice (some ⟨g, 0, none⟩) l.length l.length) l.length l :: H) w := by
  have := sat.own_mk (n := l.length) (cap := l.length) (size := 1) hs (Nat.le_refl _) hl (by simp)
  simpa using this
theorem ArgInts.bytes {a : Option Addr} {xs : List Int} (h : ArgInts .u8 w a xs) (cap : Nat) : ∃ l : List Nat, l.length = xs.length ∧ (∀ x ∈ l, x < 256) ∧ Reads w (.slice a l.length cap) (nums .u8 l) := by
  have hw : ∀ x ∈ xs, 0 ≤ x ∧ x < 256 := fun x hx => by
    have := h.wf x hx
    simp [Lit.wf, IntKind.min, IntKind.max, IntKind.signed, IntKind.bits] at this
    omega
  refine ⟨xs.map Int.toNat, by simp, fun x hx => ?_, ?_⟩
  · obtain ⟨y, hy, rfl⟩ := List.mem_map.1 hx
    have := hw y hy; omega
  · refine ⟨by simpa [nums] using h.len, a, cap, by simp [nums], fun hn => ?_⟩
    have hp : 0 < xs.length := by cases xs with | nil => exact (hn rfl).elim | cons _ _ => simp
    obtain ⟨g, off, rfl, hc⟩ := h.cells hp
    refine ⟨g, off, rfl, fun i u hu => ?_⟩
    have hi : i < xs.length := by
      have := (List.getElem?_eq_some_iff.1 hu).1; simpa [nums] using this
    rw [hc i hi, ← hu]
    simp only [nums, List.map_map, List.getElem?_map, List.getElem?_eq_getElem hi, Option.map_some, Function.comp, List.getD_eq_getElem?_getD, Option.getD_some]
    have := hw xs[i] (List.getElem_mem hi)
    rw [Int.toNat_of_nonneg this.1]

/-- append([]T{}, v...): a copy. -/
theorem appf {s x : Operand} {t e : TypeId} {bytes m g : Nat} {v : Value} {xs : List Value} (hs : sat W (cel g e [] :: H) w)
    (ho : o.op = .call { callee := .builtin .append, args := #[s, x], argTypes := #[t, t] }) (hw : Region.wanted o (yielded ops a.tmps) = true)
    (hev : a.eval s = .slice (some ⟨g, 0, none⟩) 0 0) (hx : a.eval x = v) (ht : SlTy P t e 1 bytes) (hr : Reads w v xs) (h1 : ∀ u ∈ xs, u.oneCell' = true)
    (hm : xs.length = m) (hbytes : m * bytes ≤ 140737488355328)
    (h : ∀ a' c' w', sat W (own e 1 (.slice a' m c') m xs :: H) w' → wpList P ops Q rest (a.put o.dst (.slice a' m c')) w') : wpList P ops Q (o :: rest) a w := by
  subst hm
  refine appr (hs.cel_own (l := []) (by decide)) ho hw hev hx ht hr h1 ?_ ?_ ?_
  · rw [List.length_nil, Nat.zero_add]; exact hbytes
  · rw [List.length_nil, Nat.zero_add]; exact hr.1
  · intro a' c' w' h'
    rw [List.length_nil, Nat.zero_add, List.nil_append] at h'
    rw [List.length_nil, Nat.zero_add]
    exact h a' c' w' h'
/-- append(s, v...), s one's own. -/
theorem apprm {s x : Operand} {t e : TypeId} {bytes m n c : Nat} {v : Value} {a0 : Option Addr} {xs0 xs : List Value} (hs : sat W (own e 1 (.slice a0 n c) n xs0 :: H) w)
    (ho : o.op = .call { callee := .builtin .append, args := #[s, x], argTypes := #[t, t] }) (hw : Region.wanted o (yielded ops a.tmps) = true)
    (hev : a.eval s = .slice a0 n c) (hx : a.eval x = v) (ht : SlTy P t e 1 bytes) (hr : Reads w v xs) (h1 : ∀ u ∈ xs, u.oneCell' = true)
    (hm : xs.length = m) (hbytes : (n + m) * bytes ≤ 140737488355328) (h63 : n + m ≤ maxLen)
    (h : ∀ a' c' w', sat W (own e 1 (.slice a' (n + m) c') (n + m) (xs0 ++ xs) :: H) w' → wpList P ops Q rest (a.put o.dst (.slice a' (n + m) c')) w') : wpList P ops Q (o :: rest) a w := by
  subst hm
  exact appr hs ho hw hev hx ht hr h1 hbytes h63 h
end Go.Mem
