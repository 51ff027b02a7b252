/-
  Slices appended in a region that draws its order; the small logic of memory.
-/
import Derived.Test.YtdcagaaanbgcoaaSx
namespace Go.Mem
open Go.RowKit
variable {W w : World} {H : List HProp} {P : Program} {o : Oper} {ops : Array Oper} {a : Act} {Q : Exit → Act → World → Prop}
/-- append(s, v...), s one's own: the run. -/
theorem run_appr {t ty e : TypeId} {bytes n c : Nat} {v : Value} {a0 : Option Addr} {xs0 xs : List Value} (hs : sat W (own e 1 (.slice a0 n c) n xs0 :: H) w) (ht : SlTy P t e 1 bytes) (hr : Reads w v xs) (h1 : ∀ u ∈ xs, u.oneCell' = true)
    (hbytes : (n + xs.length) * bytes ≤ 140737488355328) (h63 : n + xs.length ≤ maxLen) :
    ∃ a' c' w', (Builtin.append_ #[t, t] ty #[.slice a0 n c, v]).run P w = .ok (.slice a' (n + xs.length) c') w' ∧ sat W (own e 1 (.slice a' (n + xs.length) c') (n + xs.length) (xs0 ++ xs) :: H) w' := by
  obtain ⟨hl, ad, cap, rfl, hc⟩ := hr
  have key : ∀ (ad : Addr), (∀ j u, xs[j]? = some u → w.cell? (ad.add j) = some u) → ∃ a' c' w', (Builtin.append_ #[t, t] ty #[.slice a0 n c, .slice (some ad) xs.length cap]).run P w = .ok (.slice a' (n + xs.length) c') w' ∧ sat W (own e 1 (.slice a' (n + xs.length) c') (n + xs.length) (xs0 ++ xs) :: H) w' := by
    intro ad hv
    obtain ⟨v', w', hr, h2⟩ := run_append_sat (P := P) (ty := ty) (a := ad) (m := xs.length) (c := cap) ht hs (by simp) hv h1 hbytes h63
    obtain ⟨a', c', rfl⟩ := h2.own_slice
    exact ⟨a', c', w', hr, h2⟩
  cases xs with
  | nil =>
    cases ad with
    | none => exact ⟨a0, c, w, run_append_nilc (P := P) (ty := ty) (c := cap) ht hs, by simpa using hs⟩
    | some ad => exact key ad (by simp)
  | cons u us =>
    obtain ⟨b, off, rfl, hv⟩ := hc (by simp)
    exact key _ (fun j u' hu => by rw [add_none]; exact hv j u' hu)
theorem sappr {E : Prop} {K : Act → World → Prop} {s x : Operand} {t e : TypeId} {bytes m n c : Nat} {v : Value} {a0 : Option Addr} {xs0 xs : List Value} (hs : sat W (own e 1 (.slice a0 n c) n xs0 :: H) w)
    (hgd : o.guard = none) (ho : o.op = .call { callee := .builtin .append, args := #[s, x], argTypes := #[t, t] })
    (hev : a.eval s = .slice a0 n c) (hx : a.eval x = v) (ht : SlTy P t e 1 bytes) (hr : Reads w v xs) (h1 : ∀ u ∈ xs, u.oneCell' = true) (hm : xs.length = m)
    (hbytes : (n + m) * bytes ≤ 140737488355328) (h63 : n + m ≤ maxLen)
    (h : ∀ a' c' w', sat W (own e 1 (.slice a' (n + m) c') (n + m) (xs0 ++ xs) :: H) w' → K (a.put o.dst (.slice a' (n + m) c')) w') :
    if Region.wanted o (yielded ops a.tmps) = true then Oper.wp P o a w K Q else E := by
  subst hm
  have hw : Region.wanted o (yielded ops a.tmps) = true := by simp [Region.wanted, hgd]
  rw [if_pos hw]
  obtain ⟨a', c', w', hr, h2⟩ := run_appr (P := P) (ty := o.type) hs ht hr h1 hbytes h63
  unfold Oper.wp execOp
  simp only [ho, resolve, invoke, builtin, Sem.run_bind, Sem.run_pure, Result.andThen_ok, List.map_toArray, List.map_cons, List.map_nil, hev, hx, hr]
  exact h a' c' w' h2
/-- .. s just built, of the elements xs0. -/
theorem sappb {E : Prop} {K : Act → World → Prop} {s x : Operand} {t e : TypeId} {bytes m k g : Nat} {v : Value} {xs0 xs : List Value} (hs : sat W (cel g e xs0 :: H) w) (hk : xs0.length = k)
    (hgd : o.guard = none) (ho : o.op = .call { callee := .builtin .append, args := #[s, x], argTypes := #[t, t] })
    (hev : a.eval s = .slice (some ⟨g, 0, none⟩) k k) (hx : a.eval x = v) (ht : SlTy P t e 1 bytes) (hr : Reads w v xs) (h1 : ∀ u ∈ xs, u.oneCell' = true) (hm : xs.length = m)
    (hbytes : (k + m) * bytes ≤ 140737488355328) (h63 : k + m ≤ maxLen)
    (h : ∀ a' c' w', sat W (own e 1 (.slice a' (k + m) c') (k + m) (xs0 ++ xs) :: H) w' → K (a.put o.dst (.slice a' (k + m) c')) w') :
    if Region.wanted o (yielded ops a.tmps) = true then Oper.wp P o a w K Q else E := by
  subst hk
  exact sappr (hs.cel_own (by omega)) hgd ho hev hx ht hr h1 hm hbytes h63 h
end Go.Mem
