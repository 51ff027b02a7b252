/-
  Slices of one's own whose elements take several cells: an element cut out in place (append(s[:i], s[i+1:]...)), the cells behind the end cleared.
-/
import Derived.Test.YtdcagaaanbgcoaaSr
import Derived.Test.YtdcagaaanbgcoaaSs
import Derived.Lib.SliceRun
namespace Go.Mem
open Go.RowKit
variable {W w : World} {H : List HProp} {P : Program}
theorem zeroCells_size (z : Array Value) (n : Nat) : (Builtin.zeroCells z n).size = n * z.size := by simp [Builtin.zeroCells]
theorem spl_before : ∀ (vs : List Value) (l : List Value) (o j : Nat), j < o → (spl l o vs)[j]? = l[j]?
  | [], _, _, _, _ => rfl
  | v :: r, l, o, j, h => by
    unfold spl
    rw [spl_before r (l.set o v) (o + 1) j (by omega), List.getElem?_set_ne (by omega)]
/-- append(s[:i], s[j:]...) within s. -/
theorem run_cut {t ty e : TypeId} {size bytes n c i m cc g : Nat} {a : Addr} {xs news : List Value} (ht : SlTy P t e size bytes) (hs : sat W (own e size (.slice (some ⟨g, 0, none⟩) n c) n xs :: H) w)
    (hl : news.length = m * size) (hnews : ∀ j u, news[j]? = some u → w.cell? (a.add j) = some u) (h1 : ∀ u ∈ news, u.oneCell' = true) (hr : i + m ≤ n) :
    ∃ w', (Builtin.append_ #[t, t] ty #[.slice (some ⟨g, 0, none⟩) i c, .slice (some a) m cc]).run P w = .ok (.slice (some ⟨g, 0, none⟩) (i + m) c) w' ∧ sat W (own e size (.slice (some ⟨g, 0, none⟩) (i + m) c) (i + m) (xs.take (i * size) ++ news) :: H) w' := by
  obtain ⟨hund, ⟨inf, z, hi, hz, hsize, hby, hzs⟩, hpos⟩ := ht
  subst hsize
  obtain ⟨hxl, hcase⟩ := hs.own_cases
  rcases hcase with ⟨e0, _⟩ | ⟨g', cap, cur, e0, hnc, hcm, hcs, htake, hb⟩
  · cases e0
  · cases e0
    have hroom : i + m ≤ c := by omega
    have hfit : i * inf.size + news.length ≤ cur.size := by rw [hl, hcs, ← Nat.add_mul]; exact Nat.mul_le_mul_right _ hroom
    have hrun := run_append_room (P := P) w t ty e inf hund hi g i c cur hb.heap a m cc news hl hnews h1 hroom hfit
    have ht := hb.turn (w' := w.setRow g (cur.toList.take (i * inf.size) ++ news ++ cur.toList.drop (i * inf.size + news.length)).toArray) rfl rfl rfl (setRow_heap w g cur _ e _ hb.heap)
      (fun k _ hk => setRow_other w g k _ hk)
    have h0 := ht.own_mk (n := i + m) (size := inf.size) hroom hcm (by
      simp only [List.size_toArray, List.length_append, List.length_take, List.length_drop, Array.length_toList]
      rw [hl] at hfit ⊢
      omega)
    have e1 : (cur.toList.take (i * inf.size) ++ news ++ cur.toList.drop (i * inf.size + news.length)).toArray.toList.take ((i + m) * inf.size) = xs.take (i * inf.size) ++ news := by
      have e2 : cur.toList.take (i * inf.size) = xs.take (i * inf.size) := by
        rw [← htake, List.take_take, Nat.min_eq_left (Nat.mul_le_mul_right _ (by omega))]
      have e3 : (xs.take (i * inf.size) ++ news).length = (i + m) * inf.size := by
        rw [List.length_append, List.length_take, hxl, hl, Nat.min_eq_left (Nat.mul_le_mul_right _ (by omega)), Nat.add_mul]
      show (cur.toList.take (i * inf.size) ++ news ++ cur.toList.drop (i * inf.size + news.length)).take ((i + m) * inf.size) = _
      rw [e2, ← e3]
      exact List.take_left
    rw [e1] at h0
    exact ⟨_, hrun, h0⟩
/-- The cells behind the end, cleared. -/
theorem run_clr {t ty e : TypeId} {size bytes n c m cc g : Nat} {z : Value} {xs : List Value} (ht : SlTy P t e size bytes) (hz : ∀ w, (zeroValue e).run P w = .ok z w) (hzs : z.cells.size = size) (hz1 : ∀ u ∈ z.cells.toList, u.oneCell' = true)
    (hs : sat W (own e size (.slice (some ⟨g, 0, none⟩) n c) n xs :: H) w) (hr : n + m ≤ c) :
    ∃ w', (Builtin.clear_ #[t] ty #[.slice (some ⟨g, n * size, none⟩) m cc]).run P w = .ok (.tuple #[]) w' ∧ sat W (own e size (.slice (some ⟨g, 0, none⟩) n c) n xs :: H) w' := by
  cases m with
  | zero => exact ⟨w, by simp [Builtin.clear_, run_underlying ht.und], hs⟩
  | succ m =>
    obtain ⟨hxl, hcase⟩ := hs.own_cases
    rcases hcase with ⟨e0, _⟩ | ⟨g', cap, cur, e0, hnc, hcm, hcs, htake, hb⟩
    · cases e0
    · cases e0
      obtain ⟨zs, hzz⟩ : ∃ zs, (Builtin.zeroCells z.cells (m + 1)).toList = zs := ⟨_, rfl⟩
      have hzl : zs.length = (m + 1) * size := by rw [← hzz, Array.length_toList, zeroCells_size, hzs]
      have hz2 : ∀ v ∈ zs, v.oneCell' = true := by
        intro v hv
        rw [← hzz] at hv
        simp only [Builtin.zeroCells, Array.toList_map, List.mem_map] at hv
        obtain ⟨i, hi, rfl⟩ := hv
        have hp : 0 < z.cells.size := by rw [hzs]; exact ht.pos
        have hlt : i % z.cells.size < z.cells.size := Nat.mod_lt _ hp
        rw [getElem!_pos z.cells _ hlt]
        exact hz1 _ (by rw [Array.mem_toList_iff]; exact Array.getElem_mem hlt)
      have hb2 : sat W (cel g e cur.toList :: H) w := by unfold cel; simpa using hb
      have hle : n * size + (m + 1) * size ≤ cur.size := by rw [hcs, ← Nat.add_mul]; exact Nat.mul_le_mul_right _ hr
      have hth := hb2.cel_there (i := n * size) (n := zs.length) (by rw [Array.length_toList]; show n * size + zs.length ≤ _; rw [hzl]; exact hle)
      have hst := run_storeCells_cells (P := P) g (n * size) zs 0 w (fun j hj => (hth j hj).1) (fun j hj => (hth j hj).2) hz2
      rw [Nat.add_zero] at hst
      refine ⟨w.setCells g (n * size) zs, ?_, ?_⟩
      · simp [Builtin.clear_, run_underlying ht.und, hz, hzz, hst]
      · have h3 := sat.setCells zs cur.toList (n * size) hb2
        have h4 : sat W (blk g (.cells (spl cur.toList (n * size) zs).toArray e (0, 0)) :: H) (w.setCells g (n * size) zs) := by unfold cel at h3; exact h3
        have h5 := h4.own_mk (n := n) (size := size) hnc hcm (by rw [List.size_toArray, spl_length, Array.length_toList, hcs])
        have e1 : (spl cur.toList (n * size) zs).toArray.toList.take (n * size) = xs := by
          rw [← htake]
          show (spl cur.toList (n * size) zs).take (n * size) = cur.toList.take (n * size)
          apply List.ext_getElem?
          intro j
          rw [List.getElem?_take, List.getElem?_take]
          split
          · rename_i hj
            exact spl_before zs cur.toList (n * size) j hj
          · rfl
        rw [e1] at h5
        exact h5
theorem sat.cel_own0 {T : TypeId} {size g : Nat} (hs : sat W (cel g T [] :: H) w) : sat W (own T size (.slice (some ⟨g, 0, none⟩) 0 0) 0 [] :: H) w := by
  have h1 : sat W (blk g (.cells #[] T (0, 0)) :: H) w := by unfold cel at hs; exact hs
  have := h1.own_mk (n := 0) (cap := 0) (size := size) (Nat.le_refl _) (Nat.zero_le _) (by simp)
  simpa using this
section
variable {ops : Array Oper} {rest : List Oper} {o : Oper} {a : Act} {Q : Exit → Act → World → Prop}
/-- append(s[:i], s[j:]...) within s, as a step of the walk. -/
theorem cutl {s x : Operand} {t e : TypeId} {size bytes n c i m cc g : Nat} {ad : Addr} {xs news : List Value} (hs : sat W (own e size (.slice (some ⟨g, 0, none⟩) n c) n xs :: H) w)
    (ho : o.op = .call { callee := .builtin .append, args := #[s, x], argTypes := #[t, t] }) (hw : Region.wanted o (yielded ops a.tmps) = true)
    (hev : a.eval s = .slice (some ⟨g, 0, none⟩) i c) (hx : a.eval x = .slice (some ad) m cc) (ht : SlTy P t e size bytes) (hl : news.length = m * size) (hnews : ∀ j u, news[j]? = some u → w.cell? (ad.add j) = some u) (h1 : ∀ u ∈ news, u.oneCell' = true) (hr : i + m ≤ n)
    (h : ∀ w', sat W (own e size (.slice (some ⟨g, 0, none⟩) (i + m) c) (i + m) (xs.take (i * size) ++ news) :: H) w' → wpList P ops Q rest (a.put o.dst (.slice (some ⟨g, 0, none⟩) (i + m) c)) w') : wpList P ops Q (o :: rest) a w := by
  obtain ⟨w', hr, h2⟩ := run_cut (P := P) (ty := o.type) (cc := cc) ht hs hl hnews h1 hr
  refine BigFrame.wpList_want hw fun K hK => ?_
  unfold Oper.wp execOp
  simp only [ho, resolve, invoke, builtin, Sem.run_bind, Sem.run_pure, Result.andThen_ok, List.map_toArray, List.map_cons, List.map_nil, hev, hx, hr]
  exact hK _ _ (h _ h2)
/-- clear(s[n:n+m]), as a step of the walk. -/
theorem clrl {x : Operand} {t e : TypeId} {size bytes n c m cc g : Nat} {z : Value} {xs : List Value} (hs : sat W (own e size (.slice (some ⟨g, 0, none⟩) n c) n xs :: H) w)
    (ho : o.op = .call { callee := .builtin .clear, args := #[x], argTypes := #[t] }) (hw : Region.wanted o (yielded ops a.tmps) = true)
    (hx : a.eval x = .slice (some ⟨g, n * size, none⟩) m cc) (ht : SlTy P t e size bytes) (hz : ∀ w, (zeroValue e).run P w = .ok z w) (hzs : z.cells.size = size) (hz1 : ∀ u ∈ z.cells.toList, u.oneCell' = true) (hr : n + m ≤ c)
    (h : ∀ w', sat W (own e size (.slice (some ⟨g, 0, none⟩) n c) n xs :: H) w' → wpList P ops Q rest (a.put o.dst (.tuple #[])) w') : wpList P ops Q (o :: rest) a w := by
  obtain ⟨w', hr, h2⟩ := run_clr (P := P) (ty := o.type) (cc := cc) ht hz hzs hz1 hs hr
  refine BigFrame.wpList_want hw fun K hK => ?_
  unfold Oper.wp execOp
  simp only [ho, resolve, invoke, builtin, Sem.run_bind, Sem.run_pure, Result.andThen_ok, List.map_toArray, List.map_cons, List.map_nil, hx, hr]
  exact hK _ _ (h _ h2)
end
end Go.Mem
