/-
  make([]T, n) and copy, for elements of one cell, in the small logic of memory.
-/
import Derived.Test.YtdcagaaanbgcoaaSr
import Derived.Test.YtdcagaaanbgcoaaSs
import Derived.Laws.CopyRow
import Derived.Laws.IdiomCopy
import Derived.Laws.MakeOwn
namespace Go.Mem
open Go.RowKit
variable {W w : World} {H : List HProp}
theorem madeCells_one (z : Value) (n : Nat) : (madeCells #[z] n).toList = List.replicate n z := by
  apply List.ext_getElem?
  intro i
  by_cases h : i < n
  · simp [madeCells, h, Nat.mod_one]
  · simp [madeCells, h]
section
variable {P : Program} {ops : Array Oper} {rest : List Oper} {o : Oper} {a : Act} {Q : Exit → Act → World → Prop}
/-- make([]T, n). -/
theorem mks {xl xc : Operand} {t e : TypeId} {bytes n : Nat} {z : Value} {kl kc : IntKind} (hs : sat W H w) (ho : o.op = .makeSlice t xl xc) (hw : Region.wanted o (yielded ops a.tmps) = true)
    (hl : a.eval xl = .int kl n) (hc : a.eval xc = .int kc n) (hu : P.underlying t = some (.slice e)) (hz : (P.info? e).map (fun i => (i.zero, i.size, i.bytes)) = some (some z, 1, bytes)) (h1 : z.oneCell' = true)
    (hb : bytes * n ≤ 281474976710656) (h63 : n ≤ maxLen)
    (h : ∀ g w', sat W (own e 1 (.slice (some ⟨g, 0, none⟩) n n) n (List.replicate n z) :: H) w' → wpList P ops Q rest (a.put o.dst (.slice (some ⟨g, 0, none⟩) n n)) w') : wpList P ops Q (o :: rest) a w := by
  obtain ⟨i, hi, hz0, hz1, hz2⟩ := info_parts hz
  have hcz : z.cells = #[z] := by cases z <;> first | rfl | simp [Value.oneCell'] at h1
  have hbi : (i.bytes : Int) * (n : Int) ≤ 281474976710656 := by
    rw [hz2]
    have h2 : ((bytes * n : Nat) : Int) ≤ 281474976710656 := by omega
    rwa [Int.natCast_mul] at h2
  have hr := run_make (P := P) w t e i z hu hi hz0 kl kc n n (by omega) (Int.le_refl _) hbi (by unfold maxLen at h63; omega)
  refine BigFrame.wpList_want hw fun K hK => ?_
  unfold Oper.wp execOp
  simp only [ho, hl, hc, Sem.run_bind, Sem.run_pure, Result.andThen_ok, hr, Int.toNat_natCast, hz1, Nat.mul_one, hcz]
  refine hK _ _ (h _ _ ?_)
  have h0 := (hs.alloc (.cells (madeCells #[z] n) e)).own_mk (n := n) (cap := n) (size := 1) (Nat.le_refl _) h63 (by rw [size_madeCells]; omega)
  rw [madeCells_one, Nat.mul_one, List.take_of_length_le (by simp)] at h0
  exact h0
/-- copy(d, s): d a slice of one's own. -/
theorem cpy {d s : Operand} {t1 t2 e : TypeId} {g n c m : Nat} {v : Value} {xs ys : List Value} (hs : sat W (own e 1 (.slice (some ⟨g, 0, none⟩) n c) n xs :: H) w)
    (ho : o.op = .call { callee := .builtin .copy, args := #[d, s], argTypes := #[t1, t2] }) (hw : Region.wanted o (yielded ops a.tmps) = true)
    (hd : a.eval d = .slice (some ⟨g, 0, none⟩) n c) (hv : a.eval s = v) (hu : P.underlying t1 = some (.slice e)) (hsz : (P.info? e).map (·.size) = some 1) (hr : Reads w v ys) (h1 : ∀ u ∈ ys, u.oneCell' = true) (hm : ys.length = m)
    (h : ∀ w', sat W (own e 1 (.slice (some ⟨g, 0, none⟩) n c) n (ys.take n ++ xs.drop (min m n)) :: H) w' → wpList P ops Q rest (a.put o.dst (goInt (min m n : Nat))) w') : wpList P ops Q (o :: rest) a w := by
  subst hm
  obtain ⟨hmax, sa, sc, rfl, hcell⟩ := hr
  have hx : xs.length = n := by have := hs.own_cases.1; omega
  refine BigFrame.wpList_want hw fun K hK => ?_
  unfold Oper.wp execOp
  simp only [ho, resolve, invoke, builtin, Sem.run_bind, Sem.run_pure, Result.andThen_ok, List.map_toArray, List.map_cons, List.map_nil, hd, hv]
  by_cases h0 : min ys.length n = 0
  · have hrun := run_copy_none (P := P) w t1 t2 o.type e (some ⟨g, 0, none⟩) sa n c ys.length sc hu hsz h0
    rw [hrun]
    refine hK _ _ ?_
    have h2 := h w (by
      rw [h0, List.drop_zero]
      have : ys.take n = [] := by
        apply List.eq_nil_of_length_eq_zero
        rw [List.length_take]; omega
      rw [this]; exact hs)
    rw [h0] at h2
    exact h2
  · obtain ⟨b, off, rfl, hcl⟩ := hcell (by intro e; rw [e] at h0; simp at h0)
    rcases hs.own_cases.2 with ⟨hvv, _⟩ | ⟨b', cap', cur, hvv, k1, k2, k3, ht, hb⟩
    · cases hvv
    · cases hvv
      have hlen : (ys.take n).length = min ys.length n := by rw [List.length_take]; omega
      have hrun := run_copy_row (P := P) w t1 t2 o.type e g 0 n c ⟨b, off, none⟩ ys.length sc cur e (ys.take n) hu hsz hb.heap hlen
        (fun j u hj => by
          rw [add_none]
          rw [List.getElem?_take] at hj
          split at hj
          · exact hcl j u hj
          · cases hj) (by omega) (fun u hu => h1 u (List.mem_of_mem_take hu))
      rw [hrun]
      refine hK _ _ ?_
      have hg := hb.heap
      have ht2 := hb.turn (w' := w.setRow g (cur.toList.take 0 ++ ys.take n ++ cur.toList.drop (0 + (ys.take n).length)).toArray) rfl rfl rfl (setRow_heap w g cur _ e _ hg)
        (fun k _ hk => setRow_other w g k _ hk)
      have h3 := ht2.own_mk (n := n) (size := 1) k1 k2 (by
        simp only [List.size_toArray, List.length_append, List.length_take, List.length_drop, Array.length_toList]
        omega)
      have e1 : ((cur.toList.take 0 ++ ys.take n ++ cur.toList.drop (0 + (ys.take n).length)).toArray.toList.take (n * 1)) = ys.take n ++ xs.drop (min ys.length n) := by
        show (cur.toList.take 0 ++ ys.take n ++ cur.toList.drop (0 + (ys.take n).length)).take (n * 1) = _
        rw [List.take_zero, List.nil_append, Nat.zero_add, ← ht, Nat.mul_one]
        rw [List.take_append, List.take_of_length_le (by rw [hlen]; omega), hlen, List.drop_take]
      rw [e1] at h3
      have h4 := h _ h3
      rw [hlen] at h4 ⊢
      exact h4
end
end Go.Mem
