/-
  A slice that need not begin its block, of elements of several cells: read, and appended to a slice of one's own.
-/
import Derived.Test.YtdcagaaanbgcoaaSq
import Derived.Test.YtdcagaaanbgcoaaSw
namespace Go.Mem
open Go.RowKit
variable {W w : World} {H : List HProp} {P : Program}
/-- What a slice of m elements reads as. -/
def Rds (w : World) (v : Value) (m : Nat) (xs : List Value) : Prop :=
  (v = .slice none 0 0 ∧ m = 0 ∧ xs = []) ∨ ∃ b off c, v = .slice (some ⟨b, off, none⟩) m c ∧ w.rangeAt b off xs
theorem range_at {b off j : Nat} {xs : List Value} {u : Value} (h : w.rangeAt b off xs) (hj : xs[j]? = some u) : w.cell? ⟨b, off + j, none⟩ = some u := h j u hj
/-- append: a slice that can be read, behind a slice of one's own. -/
theorem apx {ops : Array Oper} {rest : List Oper} {o : Oper} {a : Act} {Q : Exit → Act → World → Prop} {s x : Operand} {t e : TypeId} {size bytes m n c : Nat} {v : Value} {a0 : Option Addr} {xs news : List Value} (hs : sat W (own e size (.slice a0 n c) n xs :: H) w)
    (ho : o.op = .call { callee := .builtin .append, args := #[s, x], argTypes := #[t, t] }) (hw : Region.wanted o (yielded ops a.tmps) = true)
    (hev : a.eval s = .slice a0 n c) (hx : a.eval x = v) (ht : SlTy P t e size bytes) (hr : Rds w v m news) (hl : news.length = m * size) (h1 : ∀ u ∈ news, u.oneCell' = true)
    (hbytes : (n + m) * bytes ≤ 140737488355328) (h63 : n + m ≤ maxLen)
    (h : ∀ a' c' w', sat W (own e size (.slice a' (n + m) c') (n + m) (xs ++ news) :: H) w' → wpList P ops Q rest (a.put o.dst (.slice a' (n + m) c')) w') : wpList P ops Q (o :: rest) a w := by
  rcases hr with ⟨rfl, rfl, rfl⟩ | ⟨b, off, cc, rfl, hr⟩
  · refine wpList_append_sat_none hw s x t ho ht hev hs hx ?_
    have h2 := h a0 c w
    simp only [Nat.add_zero, List.append_nil] at h2
    exact h2 hs
  · exact wpList_append_sat hw s x t ho ht hev hs hx hl (fun j u hu => by rw [add_none]; exact hr j u hu) h1 hbytes h63 h
/-- .. behind an empty literal. -/
theorem apx0 {ops : Array Oper} {rest : List Oper} {o : Oper} {a : Act} {Q : Exit → Act → World → Prop} {s x : Operand} {t e : TypeId} {size bytes m g : Nat} {v : Value} {news : List Value} (hs : sat W (cel g e [] :: H) w)
    (ho : o.op = .call { callee := .builtin .append, args := #[s, x], argTypes := #[t, t] }) (hw : Region.wanted o (yielded ops a.tmps) = true)
    (hev : a.eval s = .slice (some ⟨g, 0, none⟩) 0 0) (hx : a.eval x = v) (ht : SlTy P t e size bytes) (hr : Rds w v m news) (hl : news.length = m * size) (h1 : ∀ u ∈ news, u.oneCell' = true)
    (hbytes : m * bytes ≤ 140737488355328) (h63 : m ≤ maxLen)
    (h : ∀ a' c' w', sat W (own e size (.slice a' m c') m news :: H) w' → wpList P ops Q rest (a.put o.dst (.slice a' m c')) w') : wpList P ops Q (o :: rest) a w := by
  refine apx (hs.cel_own0 (size := size)) ho hw hev hx ht hr hl h1 (by rw [Nat.zero_add]; exact hbytes) (by rw [Nat.zero_add]; exact h63) ?_
  intro a' c' w' h2
  simp only [Nat.zero_add, List.nil_append] at h2 ⊢
  exact h a' c' w' h2
/-- A slice somewhere in a block that is known whole. -/
def slP (T : TypeId) (v : Value) (n : Nat) (xs : List Value) : HProp := fun h =>
  (v = .slice none 0 0 ∧ n = 0 ∧ xs = []) ∨ ∃ (b off c : Nat) (l : List Value), v = .slice (some ⟨b, off, none⟩) n c ∧ n ≤ c ∧ c ≤ maxLen ∧ (l.drop off).take xs.length = xs ∧ cel b T l h
theorem sat.slP_rds {T : TypeId} {v : Value} {n : Nat} {xs : List Value} (hs : sat W (slP T v n xs :: H) w) : Rds w v n xs := by
  obtain ⟨h1, h2, ap, s1, s2, hv, r⟩ := hs.2.2.2
  rcases hv with ⟨h3, h4, h5⟩ | ⟨b, off, c, l, h3, h4, h5, h6, h7⟩
  · exact .inl ⟨h3, h4, h5⟩
  · refine .inr ⟨b, off, c, h3, fun j u hj => ?_⟩
    have hc : sat W (cel b T l :: H) w := ⟨hs.1, hs.2.1, hs.2.2.1, h1, h2, ap, s1, s2, h7, r⟩
    refine hc.cel_cell ?_
    rw [← h6, List.getElem?_take] at hj
    split at hj
    · rw [List.getElem?_drop] at hj
      exact hj
    · cases hj
theorem sat.slP_len {T : TypeId} {v : Value} {n : Nat} {xs : List Value} (hs : sat W (slP T v n xs :: H) w) : ∃ a c, v = .slice a n c := by
  obtain ⟨h1, h2, ap, s1, s2, hv, r⟩ := hs.2.2.2
  rcases hv with ⟨h3, h4, h5⟩ | ⟨b, off, c, l, h3, h4, h5, h6, h7⟩
  · exact ⟨_, _, by rw [h3, h4]⟩
  · exact ⟨_, _, h3⟩
theorem sat.slP_ptr {T : TypeId} {a : Option Addr} {n c : Nat} {xs : List Value} (h0 : 0 < n) (hs : sat W (slP T (.slice a n c) n xs :: H) w) : ∃ b off, a = some ⟨b, off, none⟩ ∧ n ≤ c ∧ c ≤ maxLen ∧ ∀ w', sat W (slP T (.slice a n c) n xs :: H) w' → w'.rangeAt b off xs := by
  have hv := hs.2.2.2
  obtain ⟨h1, h2, ap, s1, s2, hv, r⟩ := hv
  rcases hv with ⟨h3, h4, h5⟩ | ⟨b, off, c', l, h3, h4, h5, h6, h7⟩
  · omega
  · cases h3
    refine ⟨b, off, rfl, h4, h5, fun w' hw => ?_⟩
    rcases hw.slP_rds with ⟨e, _⟩ | ⟨b', off', c2, e, hr⟩
    · cases e
    · cases e; exact hr
theorem sat.own_slP {T : TypeId} {size n : Nat} {v : Value} {xs : List Value} (hs : sat W (own T size v n xs :: H) w) : sat W (slP T v n xs :: H) w := by
  have hl := hs.own_cases.1
  refine hs.imp fun h k => ?_
  obtain ⟨_, ⟨h1, h2⟩ | ⟨b, cap, cur, h1, h2, h3, h4, h5, h6⟩⟩ := k
  · refine .inl ⟨h1, h2, ?_⟩
    subst h2
    exact List.eq_nil_of_length_eq_zero (by simpa using hl)
  · refine .inr ⟨b, 0, cap, cur.toList, h1, h2, h3, ?_, by unfold cel; simpa using h6⟩
    rw [List.drop_zero, hl]; exact h5
/-- .. from one of its elements on. -/
theorem sat.own_slP_drop {T : TypeId} {size n b c k : Nat} {xs : List Value} (hs : sat W (own T size (.slice (some ⟨b, 0, none⟩) n c) n xs :: H) w) (hk : k ≤ n) : sat W (slP T (.slice (some ⟨b, k * size, none⟩) (n - k) (c - k)) (n - k) (xs.drop (k * size)) :: H) w := by
  have hl := hs.own_cases.1
  refine hs.imp fun h q => ?_
  obtain ⟨_, ⟨h1, h2⟩ | ⟨b', cap, cur, h1, h2, h3, h4, h5, h6⟩⟩ := q
  · cases h1
  · cases h1
    refine .inr ⟨b, k * size, c - k, cur.toList, rfl, by omega, by omega, ?_, by unfold cel; simpa using h6⟩
    rw [← h5, List.drop_take, List.length_take, List.length_drop]
    have h7 : n * size - k * size ≤ cur.toList.length - k * size := by
      rw [Array.length_toList, h4]
      exact Nat.sub_le_sub_right (Nat.mul_le_mul_right _ h2) _
    rw [Nat.min_eq_left h7]
theorem sat.own_slP_none {T : TypeId} {size n b c : Nat} {xs : List Value} (off c0 : Nat) (hm : c0 ≤ maxLen) (hs : sat W (own T size (.slice (some ⟨b, 0, none⟩) n c) n xs :: H) w) : sat W (slP T (.slice (some ⟨b, off, none⟩) 0 c0) 0 [] :: H) w := by
  refine hs.imp fun h q => ?_
  obtain ⟨_, ⟨h1, h2⟩ | ⟨b', cap, cur, h1, h2, h3, h4, h5, h6⟩⟩ := q
  · cases h1
  · cases h1
    exact .inr ⟨b, off, c0, cur.toList, rfl, Nat.zero_le _, hm, by simp, by unfold cel; simpa using h6⟩
/-- A part of what is read is read. -/
theorem Rds.drop {b off c n k size : Nat} {xs : List Value} (h : Rds w (.slice (some ⟨b, off, none⟩) n c) n xs) : Rds w (.slice (some ⟨b, off + k * size, none⟩) (n - k) (c - k)) (n - k) (xs.drop (k * size)) := by
  rcases h with ⟨e, _⟩ | ⟨b', off', c', e, hr⟩
  · cases e
  · cases e
    refine .inr ⟨b, off + k * size, c - k, rfl, fun j u hj => ?_⟩
    rw [List.getElem?_drop] at hj
    have := hr _ _ hj
    rwa [show off + k * size + j = off + (k * size + j) from by omega]
theorem Rds.take {a : Option Addr} {c c' n k size : Nat} {xs : List Value} (h : Rds w (.slice a n c) n xs) (hk : k ≤ n) (h0 : a = none → c' = 0) : Rds w (.slice a k c') k (xs.take (k * size)) := by
  rcases h with ⟨e, e2, e3⟩ | ⟨b', off', c2, e, hr⟩
  · cases e
    obtain rfl : k = 0 := by omega
    refine .inl ⟨by rw [h0 rfl], rfl, by rw [e3]; simp⟩
  · cases e
    refine .inr ⟨b', off', c', rfl, fun j u hj => ?_⟩
    rw [List.getElem?_take] at hj
    split at hj
    · exact hr _ _ hj
    · cases hj
theorem sat.own_rds {T : TypeId} {size n : Nat} {v : Value} {xs : List Value} (hs : sat W (own T size v n xs :: H) w) : Rds w v n xs := hs.own_slP.slP_rds
end Go.Mem
