/- Law 16: append of runs onto runs; a literal of one run. -/
import Derived.Test.YtkldbppldomjhaaR15
namespace Go.Proofs.Ytkldbppldomjhaa
open Go.RowKit Go.Mem Go.Typed Go.Front Go.Classify
variable {W w : World} {H : List HProp}
theorem flat_len : ∀ {L : List (List Value)}, (∀ r ∈ L, r.length = 4) → L.flatten.length = L.length * 4
  | [], _ => rfl
  | c :: L, h => by
    rw [List.flatten_cons, List.length_append, flat_len (fun r hr => h r (List.mem_cons_of_mem _ hr)), h c List.mem_cons_self, List.length_cons]
    omega
theorem rnl_cells {l : List Run} {L : List (List Value)} (hs : sat W (rnl l L :: H) w) : L.flatten.length = l.length * 4 ∧ ∀ u ∈ L.flatten, u.oneCell' = true := by
  obtain ⟨h1, h2⟩ := rnl_rows hs
  refine ⟨by rw [flat_len (fun r hr => (h2 r hr).1), h1], fun u hu => ?_⟩
  obtain ⟨r, hr, hu⟩ := List.mem_flatten.1 hu
  exact (h2 r hr).2 u hu
/-- append of runs onto runs. -/
theorem apprns {P : Program} {ops : Array Oper} {rest : List Oper} {o : Oper} {a : Act} {Q : Exit → Act → World → Prop} {s x : Operand} {a1 a2 : Option Addr} {n1 n2 c1 c2 : Nat} {l1 l2 : List Run} (hs : sat W (rns (.slice a1 n1 c1) l1 :: rns (.slice a2 n2 c2) l2 :: H) w)
    (ho : o.op = .call { callee := .builtin .append, args := #[s, x], argTypes := #[29, 29] }) (hw : Region.wanted o (yielded ops a.tmps) = true)
    (hev : a.eval s = .slice a1 n1 c1) (hx : a.eval x = .slice a2 n2 c2) (ht : SlTy P 29 36 4 48) (hb : n1 + n2 ≤ 100000)
    (h : ∀ a' c' w', sat W (rns (.slice a' (n1 + n2) c') (l1 ++ l2) :: H) w' → wpList P ops Q rest (a.put o.dst (.slice a' (n1 + n2) c')) w') : wpList P ops Q (o :: rest) a w := by
  have e1 := rns_len rfl hs
  have e2 := rns_len rfl hs.b1
  subst e1 e2
  obtain ⟨L1, hs⟩ := rns_open hs
  obtain ⟨L2, hs⟩ := rns_open hs.b2
  rcases hs.own_cases.2 with ⟨e, h0, hz⟩ | ⟨g, cap, cur, e, _⟩
  · have hl : l2 = [] := List.eq_nil_of_length_eq_zero h0
    subst hl
    cases e
    refine wpList_append_sat_none hw s x 29 ho ht hev (hs.b2) (by rw [hx]; rfl) ?_
    have h2 := h a1 c1 w (by
      rw [List.append_nil]
      exact rns_mk rfl (by refine sb_from ?_ hs; repeat constructor))
    exact h2
  · cases e
    obtain ⟨k1, k2⟩ := rnl_cells hs.b1
    refine appo (g := g) (hs.b2) ho hw hev hx ht k1 k2 (by omega) (by unfold maxLen; omega) fun a' c' w' hs' => h a' c' w' ?_
    rw [← List.length_append]
    refine rns_mk (L := L1 ++ L2) (by rw [List.flatten_append]) ?_
    rw [List.length_append]
    have h3 : sat W (rnl l1 L1 :: rnl l2 L2 :: own 36 4 (.slice a' (l1.length + l2.length) c') (l1.length + l2.length) (L1.flatten ++ L2.flatten) :: H) w' := by
      refine sb_from ?_ hs'; repeat constructor
    exact (rnl_app h3).b1
/-- []Run{x} whose text is a given own slice. -/
theorem one_run {z n cp : Nat} {a : Option Addr} {x : Run} (hn : x.text.length = n) (hs : sat W (cel z 36 (rnC x (.slice a n cp)) :: own 21 1 (.slice a n cp) n (runes x.text) :: H) w) : sat W (rns (.slice (some ⟨z, 0, none⟩) 1 1) [x] :: H) w := by
  subst hn
  have h1 := (sat.own_mk (n := 1) (cap := 1) (size := 4) hs (Nat.le_refl _) (by decide) (by simp [rnC]))
  exact rns_mk (l := [x]) (L := [rnC x (.slice a x.text.length cp)]) (by simp; rfl) (rnl_one (x := x) h1.b1).b1
end Go.Proofs.Ytkldbppldomjhaa
