/- Rows of a slice of one's own: a struct read and written whole, a field read and written. -/
import Derived.Test.YtdcagaaanbgcoaaSs
import Derived.Test.YtdcagaaanbgcoaaSr
import Derived.Test.YtdcagaaanbgcoaaSo
namespace Go.Mem
open Go.RowKit
section
variable {W w : World} {H : List HProp} {P : Program} {b i k n cap size : Nat} {T ty : TypeId} {L : List (List Value)} {cs : List Value} {v : Value} {o : Oper} {ops : Array Oper} {rest : List Oper} {a : Act} {Q : Exit → Act → World → Prop}
/-- Rows of so many cells. -/
def All6 (size : Nat) (L : List (List Value)) : Prop := ∀ r ∈ L, r.length = size
theorem flat_drop : ∀ (L : List (List Value)) (i : Nat), All6 size L → L.flatten.drop (i * size) = (L.drop i).flatten
  | [], i, _ => by simp
  | r :: L, 0, _ => by simp
  | r :: L, i + 1, h => by
    have e : r.length = size := h r List.mem_cons_self
    rw [List.flatten_cons, List.drop_succ_cons, ← flat_drop L i (fun x hx => h x (List.mem_cons_of_mem _ hx)), show (i + 1) * size = r.length + i * size from by rw [e, Nat.succ_mul]; omega, List.drop_append]
    simp
theorem flat_row (h : All6 size L) (hi : L[i]? = some cs) : (L.flatten.drop (i * size)).take size = cs := by
  rw [flat_drop L i h]
  have hlt : i < L.length := (List.getElem?_eq_some_iff.1 hi).1
  have e : L.drop i = cs :: L.drop (i + 1) := by
    rw [List.drop_eq_getElem_cons hlt]
    congr 1
    rw [List.getElem?_eq_getElem hlt] at hi
    exact Option.some.inj hi
  have hl : cs.length = size := h cs (List.mem_of_getElem? hi)
  rw [e, List.flatten_cons, ← hl, List.take_left]
theorem flat_at (h : All6 size L) (hi : L[i]? = some cs) (hk : cs[k]? = some v) : L.flatten[i * size + k]? = some v := by
  have e := flat_row h hi
  have hl : cs.length = size := h cs (List.mem_of_getElem? hi)
  have hk2 : k < cs.length := (List.getElem?_eq_some_iff.1 hk).1
  rw [← e, List.getElem?_take, if_pos (by omega), List.getElem?_drop] at hk
  exact hk
theorem flat_size (h : All6 size L) : L.flatten.length = L.length * size := flat_len L h
theorem all6_set (h : All6 size L) (hc : cs.length = size) : All6 size (L.set i cs) := fun r hr => by
  rcases List.mem_or_eq_of_mem_set hr with h1 | h1
  · exact h r h1
  · rw [h1]; exact hc
theorem flat_set1 : ∀ (L : List (List Value)) (i : Nat) {r : List Value}, All6 size L → L[i]? = some r → k < size → L.flatten.set (i * size + k) v = (L.set i (r.set k v)).flatten
  | [], i, r, _, hi, _ => by simp at hi
  | x :: L, 0, r, h, hi, hk => by
    have e : x = r := by simpa using hi
    subst e
    have hl : x.length = size := h x List.mem_cons_self
    rw [List.flatten_cons, List.set_cons_zero, List.flatten_cons, Nat.zero_mul, Nat.zero_add, List.set_append_left _ _ (by omega)]
  | x :: L, i + 1, r, h, hi, hk => by
    have hl : x.length = size := h x List.mem_cons_self
    rw [List.getElem?_cons_succ] at hi
    rw [List.flatten_cons, List.set_cons_succ, List.flatten_cons, show (i + 1) * size + k = x.length + (i * size + k) from by rw [hl, Nat.succ_mul]; omega, List.set_append_right _ _ (by omega), show x.length + (i * size + k) - x.length = i * size + k from by omega,
      flat_set1 L i (fun y hy => h y (List.mem_cons_of_mem _ hy)) hi hk]
theorem spl_shift : ∀ (vs p q : List Value) (o : Nat), p.length ≤ o → spl (p ++ q) o vs = p ++ spl q (o - p.length) vs
  | [], p, q, o, _ => rfl
  | v :: vs, p, q, o, h => by
    rw [spl, spl, List.set_append_right _ _ h, spl_shift vs p _ (o + 1) (by omega), show o + 1 - p.length = o - p.length + 1 from by omega]
theorem spl_in : ∀ (vs p q : List Value) (o : Nat), o + vs.length ≤ p.length → spl (p ++ q) o vs = spl p o vs ++ q
  | [], p, q, o, _ => rfl
  | v :: vs, p, q, o, h => by
    rw [List.length_cons] at h
    rw [spl, spl, List.set_append_left _ _ (by omega), spl_in vs _ q (o + 1) (by rw [List.length_set]; omega)]
theorem flat_set : ∀ (L : List (List Value)) (i : Nat), All6 size L → i < L.length → cs.length = size → spl L.flatten (i * size) cs = (L.set i cs).flatten
  | [], i, _, hi, _ => by simp at hi
  | x :: L, 0, h, _, hc => by
    have hl : x.length = size := h x List.mem_cons_self
    rw [List.flatten_cons, List.set_cons_zero, List.flatten_cons, Nat.zero_mul, spl_in _ _ _ _ (by omega), spl_all (by omega)]
  | x :: L, i + 1, h, hi, hc => by
    have hl : x.length = size := h x List.mem_cons_self
    rw [List.length_cons] at hi
    rw [List.flatten_cons, List.set_cons_succ, List.flatten_cons, spl_shift _ _ _ _ (by rw [hl, Nat.succ_mul]; omega), show (i + 1) * size - x.length = i * size from by rw [hl, Nat.succ_mul]; omega,
      flat_set L i (fun y hy => h y (List.mem_cons_of_mem _ hy)) (by omega) hc]
theorem sat.own_range {xs : List Value} (hs : sat W (own T size (.slice (some ⟨b, 0, none⟩) n cap) n xs :: H) w) (hv : (xs.drop i).take k = cs) : w.rangeAt b i cs := fun j v hj => by
  subst hv
  rw [List.getElem?_take] at hj
  split at hj
  · rw [List.getElem?_drop] at hj
    exact hs.own_cell hj
  · cases hj
theorem sat.own_there {xs : List Value} (hs : sat W (own T size (.slice (some ⟨b, 0, none⟩) n cap) n xs :: H) w) (h : i + k ≤ xs.length) : w.there b i k := fun j hj => by
  have h1 : (xs[i + j]?) = some xs[i + j] := List.getElem?_eq_getElem (by omega)
  exact ⟨by rw [hs.own_cell h1]; rfl, hs.own_frozen⟩
theorem sat.own_setCells : ∀ (vs : List Value) (xs : List Value) (i : Nat) {w : World}, sat W (own T size (.slice (some ⟨b, 0, none⟩) n cap) n xs :: H) w → sat W (own T size (.slice (some ⟨b, 0, none⟩) n cap) n (spl xs i vs) :: H) (w.setCells b i vs)
  | [], _, _, _, hs => hs
  | v :: r, xs, i, w, hs => by
    rw [World.setCells]
    unfold spl
    exact sat.own_setCells r (xs.set i v) (i + 1) (hs.own_set v)
/-- A row is read whole. -/
theorem ldor {x : Operand} (hs : sat W (own T size (.slice (some ⟨b, 0, none⟩) n cap) n L.flatten :: H) w) (ho : o.op = .load ty x) (hw : Region.wanted o (yielded ops a.tmps) = true) (hx : a.eval x = .pointer (some ⟨b, i * size, none⟩))
    (hi : L[i]? = some cs) (hL : All6 size L) (ht : rowTy P ty size = true) (h : wpList P ops Q rest (a.put o.dst (.agg cs.toArray)) w) : wpList P ops Q (o :: rest) a w := by
  obtain ⟨d, h1, h2, h3⟩ := rowTy_parts ht
  have hl : cs.length = size := hL cs (List.mem_of_getElem? hi)
  exact BigFrame.wpList_want hw fun K hK => wp_load_mid ty x ho b (i * size) hx cs d (hs.own_range (flat_row hL hi)) h1 h2 (by rw [h3, hl]) (hK _ _ h)
/-- .. is written whole. -/
theorem stor {x : Operand} {t : Tmp} {c : List Value} (hs : sat W (own T size (.slice (some ⟨b, 0, none⟩) n cap) n L.flatten :: H) w) (ho : o.op = .store ty x (.tmp t)) (hw : Region.wanted o (yielded ops a.tmps) = true) (hx : a.eval x = .pointer (some ⟨b, i * size, none⟩))
    (hy : a.tmps.toList[t]? = some (.agg c.toArray)) (hi : i < L.length) (hL : All6 size L) (ht : rowTy P ty size = true) (hc : c.length = size) (h1 : c.all (·.oneCell') = true) (hd : o.dst = none)
    (h : ∀ w', sat W (own T size (.slice (some ⟨b, 0, none⟩) n cap) n (L.set i c).flatten :: H) w' → wpList P ops Q rest a w') : wpList P ops Q (o :: rest) a w := by
  obtain ⟨d, _, _, h3⟩ := rowTy_parts ht
  have hy' : a.eval (.tmp t) = .agg c.toArray := by show a.tmps.getD t undef = _; rw [Array.getD_eq_getD_getElem?, ← Array.getElem?_toList, hy]; rfl
  have hsz : c.toArray.size = size := by simpa using hc
  have hfl := flat_size hL
  have hle : (i + 1) * size ≤ L.length * size := Nat.mul_le_mul_right _ hi
  rw [Nat.succ_mul] at hle
  refine BigFrame.wpList_want hw fun K hK => wp_store_mid ty x (.tmp t) ho b (i * size) c.toArray hx hy' (hs.own_there (by omega)) (by rw [h3, hsz]) (by simpa using h1) (hK _ _ ?_)
  rw [hd]
  have h5 := hs.own_setCells c L.flatten (i * size)
  rw [flat_set L i hL hi hc] at h5
  exact h _ h5
/-- A field is read. -/
theorem ldof {x : Operand} (hs : sat W (own T size (.slice (some ⟨b, 0, none⟩) n cap) n L.flatten :: H) w) (ho : o.op = .load ty x) (hw : Region.wanted o (yielded ops a.tmps) = true) (hx : a.eval x = .pointer (some ⟨b, i * size + k, none⟩))
    (hi : L[i]? = some cs) (hL : All6 size L) (hv : cs[k]? = some v) (ht : oneTy P ty = true) (h : wpList P ops Q rest (a.put o.dst v) w) : wpList P ops Q (o :: rest) a w :=
  ldo hs ho hw hx (flat_at hL hi hv) ht h
/-- .. is written. -/
theorem stof {x : Operand} {t : Tmp} {u : Value} (hs : sat W (own T size (.slice (some ⟨b, 0, none⟩) n cap) n L.flatten :: H) w) (ho : o.op = .store ty x (.tmp t)) (hw : Region.wanted o (yielded ops a.tmps) = true) (hx : a.eval x = .pointer (some ⟨b, i * size + k, none⟩))
    (hy : a.tmps.toList[t]? = some v) (h1 : v.oneCell' = true) (hi : L[i]? = some cs) (hL : All6 size L) (hu : cs[k]? = some u) (ht : oneTy P ty = true) (hd : o.dst = none)
    (h : ∀ w', sat W (own T size (.slice (some ⟨b, 0, none⟩) n cap) n (L.set i (cs.set k v)).flatten :: H) w' → wpList P ops Q rest a w') : wpList P ops Q (o :: rest) a w := by
  have hk : k < size := by
    have := (List.getElem?_eq_some_iff.1 hu).1
    rw [hL cs (List.mem_of_getElem? hi)] at this
    exact this
  refine sto hs ho hw hx hy h1 (by rw [flat_at hL hi hu]; rfl) ht hd fun w' hs' => h w' ?_
  rw [flat_set1 L i hL hi hk] at hs'
  exact hs'
/-- A field is written, with a constant. -/
theorem stofc {x : Operand} {u : Value} (hs : sat W (own T size (.slice (some ⟨b, 0, none⟩) n cap) n L.flatten :: H) w) (ho : o.op = .store ty x (.const v)) (hw : Region.wanted o (yielded ops a.tmps) = true) (hx : a.eval x = .pointer (some ⟨b, i * size + k, none⟩))
    (h1 : v.oneCell' = true) (hi : L[i]? = some cs) (hL : All6 size L) (hu : cs[k]? = some u) (ht : oneTy P ty = true) (hd : o.dst = none)
    (h : ∀ w', sat W (own T size (.slice (some ⟨b, 0, none⟩) n cap) n (L.set i (cs.set k v)).flatten :: H) w' → wpList P ops Q rest a w') : wpList P ops Q (o :: rest) a w := by
  have hk : k < size := by
    have := (List.getElem?_eq_some_iff.1 hu).1
    rw [hL cs (List.mem_of_getElem? hi)] at this
    exact this
  refine BigFrame.wpList_want hw fun K hK => ?_
  have hc : w.cell? ⟨b, i * size + k, none⟩ = some u := hs.own_cell (flat_at hL hi hu)
  have hy' : a.eval (.const v) = v := rfl
  unfold Oper.wp execOp
  simp only [ho, hx, hy', Sem.run_bind, Sem.run_pure, Result.andThen_ok, run_storeAt_one ht hc hs.own_frozen h1]
  rw [Oper.upon_skip, hd]
  have h5 := hs.own_set v (i := i * size + k)
  rw [flat_set1 L i hL hi hk] at h5
  exact hK _ _ (h _ h5)
theorem range_sub {m o : Nat} {r : List Value} (h : w.rangeAt b o r) (hv : (r.drop k).take m = cs) : w.rangeAt b (o + k) cs := fun j v hj => by
  subst hv
  rw [List.getElem?_take] at hj
  split at hj
  · rw [List.getElem?_drop] at hj
    have := h (k + j) v hj
    rwa [← Nat.add_assoc] at this
  · cases hj
theorem sat.row_range {r : List Value} (hs : sat W (own T size (.slice (some ⟨b, 0, none⟩) n cap) n L.flatten :: H) w) (hi : L[i]? = some r) (hL : All6 size L) : w.rangeAt b (i * size) r := hs.own_range (flat_row hL hi)
/-- A struct within a row is read. -/
theorem ldosr {m : Nat} {r : List Value} {x : Operand} (hs : sat W (own T size (.slice (some ⟨b, 0, none⟩) n cap) n L.flatten :: H) w) (ho : o.op = .load ty x) (hw : Region.wanted o (yielded ops a.tmps) = true) (hx : a.eval x = .pointer (some ⟨b, i * size + k, none⟩))
    (hi : L[i]? = some r) (hL : All6 size L) (ht : rowTy P ty m = true) (hv : (r.drop k).take m = cs) (hl : cs.length = m) (h : wpList P ops Q rest (a.put o.dst (.agg cs.toArray)) w) : wpList P ops Q (o :: rest) a w := by
  obtain ⟨d, h1, h2, h3⟩ := rowTy_parts ht
  exact BigFrame.wpList_want hw fun K hK => wp_load_mid ty x ho b (i * size + k) hx cs d (range_sub (hs.row_range hi hL) hv) h1 h2 (by rw [h3, hl]) (hK _ _ h)
theorem run_copy_size {dT sT ty elem : TypeId} {size g o dLen dCap sLen sCap : Nat} {a : Addr} {cur : Array Value} {t : TypeId} {cs : List Value} (hu : P.underlying dT = some (.slice elem)) (hs : (P.info? elem).map (·.size) = some size)
    (hg : w.heap[g]? = some (.cells cur t (0, 0))) (hn : cs.length = Nat.min sLen dLen * size) (hsrc : ∀ j v, cs[j]? = some v → w.cell? (a.add j) = some v) (hfit : o + cs.length ≤ cur.size) (h1 : ∀ v ∈ cs, v.oneCell' = true) :
    (Builtin.copy_ #[dT, sT] ty #[.slice (some ⟨g, o, none⟩) dLen dCap, .slice (some a) sLen sCap]).run P w =
      .ok (goInt (Nat.min sLen dLen)) (w.setRow g (cur.toList.take o ++ cs ++ cur.toList.drop (o + cs.length)).toArray) := by
  have hl := run_loadCells_list (P := P) w a cs hsrc
  have hst := run_storeCells_at P g o t cs 0 cur w hg (by simpa using hfit) h1
  cases hq : P.info? elem with
  | none => simp [hq] at hs
  | some i =>
    have hi : i.size = size := by simpa [hq] using hs
    simp [Builtin.copy_, run_underlying hu, Builtin.lenOf, Builtin.firstCells, sizeOf, typeInfo, hq, hi, ← hn, hl, hst]
/-- copy onto a part of a slice of one's own. -/
theorem cpyw {d s : Operand} {t1 t2 e : TypeId} {g n c i dl dc m sc : Nat} {ad : Addr} {xs news : List Value} (hs : sat W (own e size (.slice (some ⟨g, 0, none⟩) n c) n xs :: H) w)
    (ho : o.op = .call { callee := .builtin .copy, args := #[d, s], argTypes := #[t1, t2] }) (hw : Region.wanted o (yielded ops a.tmps) = true)
    (hd : a.eval d = .slice (some ⟨g, i * size, none⟩) dl dc) (hv : a.eval s = .slice (some ad) m sc) (hu : P.underlying t1 = some (.slice e)) (hsz : (P.info? e).map (·.size) = some size) (hl : news.length = Nat.min m dl * size) (hnews : ∀ j u, news[j]? = some u → w.cell? (ad.add j) = some u) (h1 : ∀ u ∈ news, u.oneCell' = true) (hr : i + Nat.min m dl ≤ n)
    (h : ∀ w', sat W (own e size (.slice (some ⟨g, 0, none⟩) n c) n (xs.take (i * size) ++ news ++ xs.drop (i * size + news.length)) :: H) w' → wpList P ops Q rest (a.put o.dst (goInt (Nat.min m dl))) w') : wpList P ops Q (o :: rest) a w := by
  obtain ⟨hxl, hcase⟩ := hs.own_cases
  rcases hcase with ⟨e0, _⟩ | ⟨g', cap, cur, e0, hnc, hcm, hcs, htake, hb⟩
  · cases e0
  · cases e0
    have h5 : (i + Nat.min m dl) * size ≤ n * size := Nat.mul_le_mul_right _ hr
    have h6 : n * size ≤ c * size := Nat.mul_le_mul_right _ hnc
    rw [Nat.add_mul] at h5
    have hfit : i * size + news.length ≤ cur.size := by omega
    have hrun := run_copy_size (P := P) (w := w) (dT := t1) (sT := t2) (ty := o.type) (dLen := dl) (dCap := dc) (sLen := m) (sCap := sc) hu hsz hb.heap hl hnews hfit h1
    have ht := hb.turn (w' := w.setRow g (cur.toList.take (i * size) ++ news ++ cur.toList.drop (i * size + news.length)).toArray) rfl rfl rfl (setRow_heap w g cur _ e _ hb.heap)
      (fun k _ hk => setRow_other w g k _ hk)
    have h0 := ht.own_mk (n := n) (size := size) hnc hcm (by
      simp only [List.size_toArray, List.length_append, List.length_take, List.length_drop, Array.length_toList]
      omega)
    have e1 : (cur.toList.take (i * size) ++ news ++ cur.toList.drop (i * size + news.length)).toArray.toList.take (n * size) = xs.take (i * size) ++ news ++ xs.drop (i * size + news.length) := by
      show (cur.toList.take (i * size) ++ news ++ cur.toList.drop (i * size + news.length)).take (n * size) = _
      rw [← htake, List.take_take, Nat.min_eq_left (by omega), List.take_append, List.take_of_length_le (by simp only [List.length_append, List.length_take, Array.length_toList]; omega), List.drop_take]
      congr 2
      simp only [List.length_append, List.length_take, Array.length_toList]
      omega
    rw [e1] at h0
    refine BigFrame.wpList_want hw fun K hK => ?_
    unfold Oper.wp execOp
    simp only [ho, resolve, invoke, builtin, Sem.run_bind, Sem.run_pure, Result.andThen_ok, List.map_toArray, List.map_cons, List.map_nil, hd, hv]
    rw [hrun]
    exact hK _ _ (h _ h0)
theorem flat_take : ∀ (L : List (List Value)) (i : Nat), All6 size L → L.flatten.take (i * size) = (L.take i).flatten
  | [], i, _ => by simp
  | r :: L, 0, _ => by simp
  | r :: L, i + 1, h => by
    have e : r.length = size := h r List.mem_cons_self
    rw [List.flatten_cons, List.take_succ_cons, List.flatten_cons, ← flat_take L i (fun x hx => h x (List.mem_cons_of_mem _ hx)), show (i + 1) * size = r.length + i * size from by rw [e, Nat.succ_mul]; omega, List.take_append, List.take_of_length_le (by omega)]
    simp
theorem All6.take (h : All6 size L) (k : Nat) : All6 size (L.take k) := fun r hr => h r (List.mem_of_mem_take hr)
theorem All6.drop (h : All6 size L) (k : Nat) : All6 size (L.drop k) := fun r hr => h r (List.mem_of_mem_drop hr)
/-- copy(s[i:], s[j:j+m]). -/
theorem cpyr {d s : Operand} {t1 t2 e : TypeId} {g n c i j dl dc m sc q : Nat} (hs : sat W (own e size (.slice (some ⟨g, 0, none⟩) n c) n L.flatten :: H) w)
    (ho : o.op = .call { callee := .builtin .copy, args := #[d, s], argTypes := #[t1, t2] }) (hw : Region.wanted o (yielded ops a.tmps) = true)
    (hd : a.eval d = .slice (some ⟨g, i * size, none⟩) dl dc) (hv : a.eval s = .slice (some ⟨g, j * size, none⟩) m sc) (hu : P.underlying t1 = some (.slice e)) (hsz : (P.info? e).map (·.size) = some size) (hL : All6 size L) (hn : L.length = n) (h1 : ∀ r ∈ L, ∀ u ∈ r, u.oneCell' = true)
    (hq : Nat.min m dl = q) (hi : i + q ≤ n) (hj : j + q ≤ n)
    (h : ∀ w', sat W (own e size (.slice (some ⟨g, 0, none⟩) n c) n (L.take i ++ (L.drop j).take q ++ L.drop (i + q)).flatten :: H) w' → wpList P ops Q rest (a.put o.dst (goInt q)) w') : wpList P ops Q (o :: rest) a w := by
  subst hq
  have hlen : ((L.drop j).take (Nat.min m dl)).flatten.length = Nat.min m dl * size := by
    rw [flat_size ((hL.drop j).take _), List.length_take, List.length_drop]
    congr 1
    omega
  have hfl := flat_size hL
  refine cpyw (news := ((L.drop j).take (Nat.min m dl)).flatten) hs ho hw hd hv hu hsz hlen ?_ ?_ hi ?_
  · intro k u hk
    rw [add_none]
    rw [← flat_take _ _ (hL.drop j), ← flat_drop L j hL, List.getElem?_take] at hk
    split at hk
    · rw [List.getElem?_drop] at hk
      exact hs.own_cell hk
    · cases hk
  · intro u hu2
    obtain ⟨r, hr, hu3⟩ := List.mem_flatten.1 hu2
    exact h1 r (List.mem_of_mem_drop (List.mem_of_mem_take hr)) u hu3
  · intro w' hs'
    refine h w' ?_
    rw [hlen, flat_take L i hL, ← Nat.add_mul, flat_drop L (i + Nat.min m dl) hL, ← List.flatten_append, ← List.flatten_append] at hs'
    exact hs'
theorem made_rows {z : Array Value} {n : Nat} (hp : 0 < z.size) : (madeCells z (n * z.size)).toList = (List.replicate n z.toList).flatten := by
  have hA : All6 z.size (List.replicate n z.toList) := fun r hr => by rw [(List.mem_replicate.1 hr).2]; simp
  apply List.ext_getElem?
  intro i
  by_cases hi : i < n * z.size
  · have hq : i / z.size < n := Nat.div_lt_of_lt_mul (by rw [Nat.mul_comm]; exact hi)
    have hr : i % z.size < z.size := Nat.mod_lt _ hp
    have e : i = i / z.size * z.size + i % z.size := by rw [Nat.mul_comm]; exact (Nat.div_add_mod i z.size).symm
    have h1 : (List.replicate n z.toList)[i / z.size]? = some z.toList := by rw [List.getElem?_replicate, if_pos hq]
    have h2 : z.toList[i % z.size]? = some z[i % z.size] := by simp [hr]
    have h3 := flat_at hA h1 h2
    rw [← e] at h3
    rw [h3]
    simp [madeCells, hi, hr]
  · rw [List.getElem?_eq_none (by simp [madeCells]; omega), List.getElem?_eq_none (by rw [flat_size hA, List.length_replicate]; omega)]
/-- make([]T, n), T of several cells. -/
theorem mkr {xl xc : Operand} {t e : TypeId} {bytes n : Nat} {z : Value} {kl kc : IntKind} (hs : sat W H w) (ho : o.op = .makeSlice t xl xc) (hw : Region.wanted o (yielded ops a.tmps) = true)
    (hl : a.eval xl = .int kl n) (hc : a.eval xc = .int kc n) (ht : SlTy P t e size bytes) (hz : (P.info? e).map (·.zero) = some (some z)) (hzs : z.cells.size = size)
    (hb : bytes * n ≤ 281474976710656) (h63 : n ≤ maxLen)
    (h : ∀ g w', sat W (own e size (.slice (some ⟨g, 0, none⟩) n n) n (List.replicate n z.cells.toList).flatten :: H) w' → wpList P ops Q rest (a.put o.dst (.slice (some ⟨g, 0, none⟩) n n)) w') : wpList P ops Q (o :: rest) a w := by
  obtain ⟨hu, ⟨inf, z0, hi, hz0, hsize, hby, _⟩, hpos⟩ := ht
  have hzz : inf.zero = some z := by rw [hi] at hz; simpa using hz
  have hbi : (inf.bytes : Int) * (n : Int) ≤ 281474976710656 := by
    rw [hby]
    have h2 : ((bytes * n : Nat) : Int) ≤ 281474976710656 := by omega
    rwa [Int.natCast_mul] at h2
  have hr := run_make (P := P) w t e inf z hu hi hzz kl kc n n (by omega) (Int.le_refl _) hbi (by unfold maxLen at h63; omega)
  refine BigFrame.wpList_want hw fun K hK => ?_
  unfold Oper.wp execOp
  simp only [ho, hl, hc, Sem.run_bind, Sem.run_pure, Result.andThen_ok, hr, Int.toNat_natCast]
  refine hK _ _ (h _ _ ?_)
  have h0 := (hs.alloc (.cells (madeCells z.cells (n * inf.size)) e)).own_mk (n := n) (cap := n) (size := size) (Nat.le_refl _) h63 (by rw [size_madeCells, hsize])
  rw [hsize, ← hzs, made_rows (by rw [hzs]; exact hpos), List.take_of_length_le] at h0
  · rw [hsize, ← hzs]
    exact h0
  · rw [flat_size (size := z.cells.size) (fun r hr => by rw [(List.mem_replicate.1 hr).2]; simp), List.length_replicate]
    exact Nat.le_refl _
/-- append(slices.Clip(s), x..): a row of its own. -/
theorem run_append_clip {t ty e : TypeId} {size bytes n c m cc : Nat} {a0 : Option Addr} {ad : Addr} {xs news : List Value} (ht : SlTy P t e size bytes)
    (hs : sat W (own e size (.slice a0 n c) n xs :: H) w) (hl : news.length = m * size) (hm : 0 < m)
    (hnews : ∀ j u, news[j]? = some u → w.cell? (ad.add j) = some u) (hbytes : (n + m) * bytes ≤ 140737488355328) (h63 : n + m ≤ maxLen) :
    ∃ g' c' w', (Builtin.append_ #[t, t] ty #[.slice a0 n n, .slice (some ad) m cc]).run P w = .ok (.slice (some ⟨g', 0, none⟩) (n + m) c') w' ∧ sat W (own e size (.slice (some ⟨g', 0, none⟩) (n + m) c') (n + m) (xs ++ news) :: H) w' := by
  obtain ⟨hund, ⟨i, z, hi, hz, hsize, hby, hzs⟩, hpos⟩ := ht
  subst hsize
  subst hby
  have hsmall : n + m ≤ 9223372036854775807 := by simp only [maxLen] at h63; omega
  obtain ⟨hxl, hcase⟩ := hs.own_cases
  have hlen : (xs ++ news).length = (n + m) * i.size := by rw [List.length_append, hxl, hl, Nat.add_mul]
  have grown : ∀ (old : Nat), old < n + m →
      sat W (own e i.size (.slice (some ⟨w.heap.size, 0, none⟩) (n + m) (grownCap w (n + m) old e)) (n + m) (xs ++ news) :: H)
        (w.drew.alloc (.cells (xs.toArray ++ news.toArray ++ Builtin.zeroCells z.cells (grownCap w (n + m) old e - (n + m))) e)) := by
    intro old ho
    have hge := grownCap_ge w (n + m) old e
    have hcm : grownCap w (n + m) old e ≤ maxLen := grownCap_le_maxLen w (n + m) old e h63
    have h0 := (hs.drop.drew.alloc (.cells (xs.toArray ++ news.toArray ++ Builtin.zeroCells z.cells (grownCap w (n + m) old e - (n + m))) e)).own_mk (n := n + m) (size := i.size) hge hcm (by
      simp only [Array.size_append, List.size_toArray, size_zeroCells, hzs, hxl, hl, ← Nat.add_mul]
      congr 1
      omega)
    have e1 : (xs.toArray ++ news.toArray ++ Builtin.zeroCells z.cells (grownCap w (n + m) old e - (n + m))).toList.take ((n + m) * i.size) = xs ++ news := by
      simp only [Array.toList_append, List.append_assoc]
      rw [← List.append_assoc, ← hlen]
      exact List.take_left
    rw [e1] at h0
    exact h0
  rcases hcase with ⟨e0, h0, hx0⟩ | ⟨g, cap, cur, e0, hnc, hcm, hcs, htake, hb⟩
  · cases e0
    subst hx0
    have hr := run_append_nil (P := P) w t ty e i z hund hi hz ad m cc news hl hnews (by omega) (by omega) (by have hb := hbytes; simp only [Nat.zero_add] at hb; omega)
    have hgr := grown 0 (by omega)
    simp only [Nat.zero_add, List.nil_append, Array.empty_append] at hgr ⊢
    exact ⟨_, _, _, hr, hgr⟩
  · cases e0
    have holds : ∀ j u, xs[j]? = some u → w.cell? ((⟨g, 0, none⟩ : Addr).add j) = some u := by
      intro j u hu
      have hadd : (⟨g, 0, none⟩ : Addr).add j = ⟨g, j, none⟩ := by unfold Addr.add; split <;> simp_all
      rw [hadd]
      exact hs.own_cell hu
    have hr := run_append_grow (P := P) w t ty e i z hund hi hz ⟨g, 0, none⟩ n n xs hxl holds ad m cc news hl hnews (by omega) (by omega) (growslice_fits (by omega) hbytes)
    exact ⟨_, _, _, hr, grown n (by omega)⟩
theorem appclip {s x : Operand} {t e : TypeId} {bytes m cc g c n : Nat} {a0 : Option Addr} {T' : TypeId} {xs news : List Value} (hs : sat W (own e size (.slice a0 n c) n xs :: cel g T' news :: H) w)
    (ho : o.op = .call { callee := .builtin .append, args := #[s, x], argTypes := #[t, t] }) (hw : Region.wanted o (yielded ops a.tmps) = true)
    (hev : a.eval s = .slice a0 n n) (hx : a.eval x = .slice (some ⟨g, 0, none⟩) m cc) (ht : SlTy P t e size bytes) (hl : news.length = m * size) (hm : 0 < m)
    (hbytes : (n + m) * bytes ≤ 140737488355328) (h63 : n + m ≤ maxLen)
    (h : ∀ g' c' w', sat W (own e size (.slice (some ⟨g', 0, none⟩) (n + m) c') (n + m) (xs ++ news) :: H) w' → wpList P ops Q rest (a.put o.dst (.slice (some ⟨g', 0, none⟩) (n + m) c')) w') : wpList P ops Q (o :: rest) a w := by
  obtain ⟨g', c', w', hrun, hs'⟩ := run_append_clip (ty := o.type) (cc := cc) ht hs hl hm (fun j u hu => by rw [add_none, Nat.zero_add]; exact hs.swap.cel_cell hu) hbytes h63
  refine BigFrame.wpList_want hw fun K hK => ?_
  unfold Oper.wp execOp
  simp only [ho, resolve, invoke, builtin, Sem.run_bind, Sem.run_pure, Result.andThen_ok, List.map_toArray, List.map_cons, List.map_nil, hev, hx]
  rw [hrun]
  exact hK _ _ (h _ _ _ hs'.swap.drop)
theorem sat.own_take {xs : List Value} {q : Nat} (hs : sat W (own T size (.slice (some ⟨b, 0, none⟩) n cap) n xs :: H) w) (hq : q ≤ cap) (hqn : q ≤ n) : sat W (own T size (.slice (some ⟨b, 0, none⟩) q cap) q (xs.take (q * size)) :: H) w := by
  obtain ⟨hxl, hcase⟩ := hs.own_cases
  rcases hcase with ⟨e0, _⟩ | ⟨g, cap, cur, e0, hnc, hcm, hcs, htake, hb⟩
  · cases e0
  · cases e0
    have h := hb.own_mk (n := q) (size := size) hq hcm hcs
    rw [← htake, List.take_take, Nat.min_eq_left (Nat.mul_le_mul_right _ hqn)]
    exact h
section
variable {X : Type} {f : X → World} {Q : Act → Prop}
theorem ldofq {x : Operand} {r : List Value} (hf : ∀ x, sat W (own T size (.slice (some ⟨b, 0, none⟩) n cap) n L.flatten :: H) (f x)) (ho : o.op = .load ty x) (hw : Region.wanted o (yielded ops a.tmps) = true) (hx : a.eval x = .pointer (some ⟨b, i * size + k, none⟩))
    (hi : L[i]? = some r) (hL : All6 size L) (hv : r[k]? = some v) (ht : oneTy P ty = true) (h : wpQuiet P ops (fun w' => ∃ x : X, w' = f x) Q rest (a.put o.dst v)) : wpQuiet P ops (fun w' => ∃ x : X, w' = f x) Q (o :: rest) a := by
  refine BigFrame.wpQuiet_want hw fun K hK => ⟨v, ?_, hK _ h⟩
  rintro _ ⟨x, rfl⟩
  unfold Oper.quietAt execOp
  simp only [ho, hx, Sem.run_bind, Sem.run_pure, Result.andThen_ok, run_loadAt_one ht ((hf x).own_cell (flat_at hL hi hv))]
  exact ⟨rfl, rfl⟩
theorem ldosrq {m : Nat} {x : Operand} {r : List Value} (hf : ∀ x, sat W (own T size (.slice (some ⟨b, 0, none⟩) n cap) n L.flatten :: H) (f x)) (ho : o.op = .load ty x) (hw : Region.wanted o (yielded ops a.tmps) = true) (hx : a.eval x = .pointer (some ⟨b, i * size + k, none⟩))
    (hi : L[i]? = some r) (hL : All6 size L) (ht : rowTy P ty m = true) (hv : (r.drop k).take m = cs) (hl : cs.length = m) (h : wpQuiet P ops (fun w' => ∃ x : X, w' = f x) Q rest (a.put o.dst (.agg cs.toArray))) : wpQuiet P ops (fun w' => ∃ x : X, w' = f x) Q (o :: rest) a := by
  obtain ⟨d, h1, h2, h3⟩ := rowTy_parts ht
  refine BigFrame.wpQuiet_want hw fun K hK => ⟨_, ?_, hK _ h⟩
  rintro _ ⟨x, rfl⟩
  unfold Oper.quietAt execOp
  simp only [ho, hx, Instr.loadAt, Instr.sureAddr, Sem.run_bind, Sem.run_pure, Result.andThen_ok, run_loadVar_mid (f x) b (i * size + k) ty cs d (range_sub ((hf x).row_range hi hL) hv) h1 h2 (by rw [h3, hl])]
  exact ⟨rfl, rfl⟩
theorem ldorq {x : Operand} (hf : ∀ x, sat W (own T size (.slice (some ⟨b, 0, none⟩) n cap) n L.flatten :: H) (f x)) (ho : o.op = .load ty x) (hw : Region.wanted o (yielded ops a.tmps) = true) (hx : a.eval x = .pointer (some ⟨b, i * size, none⟩))
    (hi : L[i]? = some cs) (hL : All6 size L) (ht : rowTy P ty size = true) (h : wpQuiet P ops (fun w' => ∃ x : X, w' = f x) Q rest (a.put o.dst (.agg cs.toArray))) : wpQuiet P ops (fun w' => ∃ x : X, w' = f x) Q (o :: rest) a := by
  obtain ⟨d, h1, h2, h3⟩ := rowTy_parts ht
  refine BigFrame.wpQuiet_want hw fun K hK => ⟨_, ?_, hK _ h⟩
  rintro _ ⟨x, rfl⟩
  unfold Oper.quietAt execOp
  simp only [ho, hx, Instr.loadAt, Instr.sureAddr, Sem.run_bind, Sem.run_pure, Result.andThen_ok, run_loadVar_mid (f x) b (i * size) ty cs d ((hf x).row_range hi hL) h1 h2 (by rw [h3, hL cs (List.mem_of_getElem? hi)])]
  exact ⟨rfl, rfl⟩
end
end
end Go.Mem
