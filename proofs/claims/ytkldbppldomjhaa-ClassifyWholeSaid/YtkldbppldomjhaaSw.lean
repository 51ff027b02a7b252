/- Rows of a slice of one's own: a struct read and written whole, a field read and written. -/
import Derived.Test.YtkldbppldomjhaaSs
import Derived.Test.YtkldbppldomjhaaSr
namespace Go.Mem
open Go.RowKit
section
variable {W w : World} {H : List HProp} {P : Program} {b i k n cap size : Nat} {T ty : TypeId} {L : List (List Value)} {cs : List Value} {v : Value} {o : Oper} {ops : Array Oper} {rest : List Oper} {a : Act} {Q : Exit → Act → World → Prop}
/-- Rows of so many cells. -/
def All6 (size : Nat) (L : List (List Value)) : Prop := ∀ r ∈ L, r.length = size
theorem flat_drop : ∀ (L : List (List Value)) (i : Nat), All6 size L → L.flatten.drop (i * size) = (L.drop i).flatten
  | [], i, _ => by simp
  | r :: L, 0, _ => by simp
  | r :: L, i + 1, h => by
    have e : r.length = size := h r List.mem_cons_self
    rw [List.flatten_cons, List.drop_succ_cons, ← flat_drop L i (fun x hx => h x (List.mem_cons_of_mem _ hx)), show (i + 1) * size = r.length + i * size from by rw [e, Nat.succ_mul]; omega, List.drop_append]
    simp
theorem flat_row (h : All6 size L) (hi : L[i]? = some cs) : (L.flatten.drop (i * size)).take size = cs := by
  rw [flat_drop L i h]
  have hlt : i < L.length := (List.getElem?_eq_some_iff.1 hi).1
  have e : L.drop i = cs :: L.drop (i + 1) := by
    rw [List.drop_eq_getElem_cons hlt]
    congr 1
    rw [List.getElem?_eq_getElem hlt] at hi
    exact Option.some.inj hi
  have hl : cs.length = size := h cs (List.mem_of_getElem? hi)
  rw [e, List.flatten_cons, ← hl, List.take_left]
theorem flat_at (h : All6 size L) (hi : L[i]? = some cs) (hk : cs[k]? = some v) : L.flatten[i * size + k]? = some v := by
  have e := flat_row h hi
  have hl : cs.length = size := h cs (List.mem_of_getElem? hi)
  have hk2 : k < cs.length := (List.getElem?_eq_some_iff.1 hk).1
  rw [← e, List.getElem?_take, if_pos (by omega), List.getElem?_drop] at hk
  exact hk
theorem flat_size (h : All6 size L) : L.flatten.length = L.length * size := flat_len L h
theorem all6_set (h : All6 size L) (hc : cs.length = size) : All6 size (L.set i cs) := fun r hr => by
  rcases List.mem_or_eq_of_mem_set hr with h1 | h1
  · exact h r h1
  · rw [h1]; exact hc
theorem flat_set1 : ∀ (L : List (List Value)) (i : Nat) {r : List Value}, All6 size L → L[i]? = some r → k < size → L.flatten.set (i * size + k) v = (L.set i (r.set k v)).flatten
  | [], i, r, _, hi, _ => by simp at hi
  | x :: L, 0, r, h, hi, hk => by
    have e : x = r := by simpa using hi
    subst e
    have hl : x.length = size := h x List.mem_cons_self
    rw [List.flatten_cons, List.set_cons_zero, List.flatten_cons, Nat.zero_mul, Nat.zero_add, List.set_append_left _ _ (by omega)]
  | x :: L, i + 1, r, h, hi, hk => by
    have hl : x.length = size := h x List.mem_cons_self
    rw [List.getElem?_cons_succ] at hi
    rw [List.flatten_cons, List.set_cons_succ, List.flatten_cons, show (i + 1) * size + k = x.length + (i * size + k) from by rw [hl, Nat.succ_mul]; omega, List.set_append_right _ _ (by omega), show x.length + (i * size + k) - x.length = i * size + k from by omega,
      flat_set1 L i (fun y hy => h y (List.mem_cons_of_mem _ hy)) hi hk]
theorem spl_shift : ∀ (vs p q : List Value) (o : Nat), p.length ≤ o → spl (p ++ q) o vs = p ++ spl q (o - p.length) vs
  | [], p, q, o, _ => rfl
  | v :: vs, p, q, o, h => by
    rw [spl, spl, List.set_append_right _ _ h, spl_shift vs p _ (o + 1) (by omega), show o + 1 - p.length = o - p.length + 1 from by omega]
theorem spl_in : ∀ (vs p q : List Value) (o : Nat), o + vs.length ≤ p.length → spl (p ++ q) o vs = spl p o vs ++ q
  | [], p, q, o, _ => rfl
  | v :: vs, p, q, o, h => by
    rw [List.length_cons] at h
    rw [spl, spl, List.set_append_left _ _ (by omega), spl_in vs _ q (o + 1) (by rw [List.length_set]; omega)]
theorem flat_set : ∀ (L : List (List Value)) (i : Nat), All6 size L → i < L.length → cs.length = size → spl L.flatten (i * size) cs = (L.set i cs).flatten
  | [], i, _, hi, _ => by simp at hi
  | x :: L, 0, h, _, hc => by
    have hl : x.length = size := h x List.mem_cons_self
    rw [List.flatten_cons, List.set_cons_zero, List.flatten_cons, Nat.zero_mul, spl_in _ _ _ _ (by omega), spl_all (by omega)]
  | x :: L, i + 1, h, hi, hc => by
    have hl : x.length = size := h x List.mem_cons_self
    rw [List.length_cons] at hi
    rw [List.flatten_cons, List.set_cons_succ, List.flatten_cons, spl_shift _ _ _ _ (by rw [hl, Nat.succ_mul]; omega), show (i + 1) * size - x.length = i * size from by rw [hl, Nat.succ_mul]; omega,
      flat_set L i (fun y hy => h y (List.mem_cons_of_mem _ hy)) (by omega) hc]
theorem sat.own_range {xs : List Value} (hs : sat W (own T size (.slice (some ⟨b, 0, none⟩) n cap) n xs :: H) w) (hv : (xs.drop i).take k = cs) : w.rangeAt b i cs := fun j v hj => by
  subst hv
  rw [List.getElem?_take] at hj
  split at hj
  · rw [List.getElem?_drop] at hj
    exact hs.own_cell hj
  · cases hj
theorem sat.own_there {xs : List Value} (hs : sat W (own T size (.slice (some ⟨b, 0, none⟩) n cap) n xs :: H) w) (h : i + k ≤ xs.length) : w.there b i k := fun j hj => by
  have h1 : (xs[i + j]?) = some xs[i + j] := List.getElem?_eq_getElem (by omega)
  exact ⟨by rw [hs.own_cell h1]; rfl, hs.own_frozen⟩
theorem sat.own_setCells : ∀ (vs : List Value) (xs : List Value) (i : Nat) {w : World}, sat W (own T size (.slice (some ⟨b, 0, none⟩) n cap) n xs :: H) w → sat W (own T size (.slice (some ⟨b, 0, none⟩) n cap) n (spl xs i vs) :: H) (w.setCells b i vs)
  | [], _, _, _, hs => hs
  | v :: r, xs, i, w, hs => by
    rw [World.setCells]
    unfold spl
    exact sat.own_setCells r (xs.set i v) (i + 1) (hs.own_set v)
/-- A row is read whole. -/
theorem ldor {x : Operand} (hs : sat W (own T size (.slice (some ⟨b, 0, none⟩) n cap) n L.flatten :: H) w) (ho : o.op = .load ty x) (hw : Region.wanted o (yielded ops a.tmps) = true) (hx : a.eval x = .pointer (some ⟨b, i * size, none⟩))
    (hi : L[i]? = some cs) (hL : All6 size L) (ht : rowTy P ty size = true) (h : wpList P ops Q rest (a.put o.dst (.agg cs.toArray)) w) : wpList P ops Q (o :: rest) a w := by
  obtain ⟨d, h1, h2, h3⟩ := rowTy_parts ht
  have hl : cs.length = size := hL cs (List.mem_of_getElem? hi)
  exact BigFrame.wpList_want hw fun K hK => wp_load_mid ty x ho b (i * size) hx cs d (hs.own_range (flat_row hL hi)) h1 h2 (by rw [h3, hl]) (hK _ _ h)
/-- .. is written whole. -/
theorem stor {x : Operand} {t : Tmp} {c : List Value} (hs : sat W (own T size (.slice (some ⟨b, 0, none⟩) n cap) n L.flatten :: H) w) (ho : o.op = .store ty x (.tmp t)) (hw : Region.wanted o (yielded ops a.tmps) = true) (hx : a.eval x = .pointer (some ⟨b, i * size, none⟩))
    (hy : a.tmps.toList[t]? = some (.agg c.toArray)) (hi : i < L.length) (hL : All6 size L) (ht : rowTy P ty size = true) (hc : c.length = size) (h1 : c.all (·.oneCell') = true) (hd : o.dst = none)
    (h : ∀ w', sat W (own T size (.slice (some ⟨b, 0, none⟩) n cap) n (L.set i c).flatten :: H) w' → wpList P ops Q rest a w') : wpList P ops Q (o :: rest) a w := by
  obtain ⟨d, _, _, h3⟩ := rowTy_parts ht
  have hy' : a.eval (.tmp t) = .agg c.toArray := by show a.tmps.getD t undef = _; rw [Array.getD_eq_getD_getElem?, ← Array.getElem?_toList, hy]; rfl
  have hsz : c.toArray.size = size := by simpa using hc
  have hfl := flat_size hL
  have hle : (i + 1) * size ≤ L.length * size := Nat.mul_le_mul_right _ hi
  rw [Nat.succ_mul] at hle
  refine BigFrame.wpList_want hw fun K hK => wp_store_mid ty x (.tmp t) ho b (i * size) c.toArray hx hy' (hs.own_there (by omega)) (by rw [h3, hsz]) (by simpa using h1) (hK _ _ ?_)
  rw [hd]
  have h5 := hs.own_setCells c L.flatten (i * size)
  rw [flat_set L i hL hi hc] at h5
  exact h _ h5
/-- A field is read. -/
theorem ldof {x : Operand} (hs : sat W (own T size (.slice (some ⟨b, 0, none⟩) n cap) n L.flatten :: H) w) (ho : o.op = .load ty x) (hw : Region.wanted o (yielded ops a.tmps) = true) (hx : a.eval x = .pointer (some ⟨b, i * size + k, none⟩))
    (hi : L[i]? = some cs) (hL : All6 size L) (hv : cs[k]? = some v) (ht : oneTy P ty = true) (h : wpList P ops Q rest (a.put o.dst v) w) : wpList P ops Q (o :: rest) a w :=
  ldo hs ho hw hx (flat_at hL hi hv) ht h
/-- .. is written. -/
theorem stof {x : Operand} {t : Tmp} {u : Value} (hs : sat W (own T size (.slice (some ⟨b, 0, none⟩) n cap) n L.flatten :: H) w) (ho : o.op = .store ty x (.tmp t)) (hw : Region.wanted o (yielded ops a.tmps) = true) (hx : a.eval x = .pointer (some ⟨b, i * size + k, none⟩))
    (hy : a.tmps.toList[t]? = some v) (h1 : v.oneCell' = true) (hi : L[i]? = some cs) (hL : All6 size L) (hu : cs[k]? = some u) (ht : oneTy P ty = true) (hd : o.dst = none)
    (h : ∀ w', sat W (own T size (.slice (some ⟨b, 0, none⟩) n cap) n (L.set i (cs.set k v)).flatten :: H) w' → wpList P ops Q rest a w') : wpList P ops Q (o :: rest) a w := by
  have hk : k < size := by
    have := (List.getElem?_eq_some_iff.1 hu).1
    rw [hL cs (List.mem_of_getElem? hi)] at this
    exact this
  refine sto hs ho hw hx hy h1 (by rw [flat_at hL hi hu]; rfl) ht hd fun w' hs' => h w' ?_
  rw [flat_set1 L i hL hi hk] at hs'
  exact hs'
/-- A field is written, with a constant. -/
theorem stofc {x : Operand} {u : Value} (hs : sat W (own T size (.slice (some ⟨b, 0, none⟩) n cap) n L.flatten :: H) w) (ho : o.op = .store ty x (.const v)) (hw : Region.wanted o (yielded ops a.tmps) = true) (hx : a.eval x = .pointer (some ⟨b, i * size + k, none⟩))
    (h1 : v.oneCell' = true) (hi : L[i]? = some cs) (hL : All6 size L) (hu : cs[k]? = some u) (ht : oneTy P ty = true) (hd : o.dst = none)
    (h : ∀ w', sat W (own T size (.slice (some ⟨b, 0, none⟩) n cap) n (L.set i (cs.set k v)).flatten :: H) w' → wpList P ops Q rest a w') : wpList P ops Q (o :: rest) a w := by
  have hk : k < size := by
    have := (List.getElem?_eq_some_iff.1 hu).1
    rw [hL cs (List.mem_of_getElem? hi)] at this
    exact this
  refine BigFrame.wpList_want hw fun K hK => ?_
  have hc : w.cell? ⟨b, i * size + k, none⟩ = some u := hs.own_cell (flat_at hL hi hu)
  have hy' : a.eval (.const v) = v := rfl
  unfold Oper.wp execOp
  simp only [ho, hx, hy', Sem.run_bind, Sem.run_pure, Result.andThen_ok, run_storeAt_one ht hc hs.own_frozen h1]
  rw [Oper.upon_skip, hd]
  have h5 := hs.own_set v (i := i * size + k)
  rw [flat_set1 L i hL hi hk] at h5
  exact hK _ _ (h _ h5)
end
end Go.Mem
