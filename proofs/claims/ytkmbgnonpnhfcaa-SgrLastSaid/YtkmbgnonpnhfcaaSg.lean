/-
  A map whose entries one knows, one behind the other (a map literal), and a range over it.
-/
import Derived.Test.YtkmbgnonpnhfcaaSm
import Derived.Maps.RangeWalk
namespace Go.Mem
open Go.RowKit Go.Maps
open Go.ChangeMaps (setBlock)
/-- Entries of a map, one behind the other. -/
def ents : Nat → List (Value × Value) → List MapEntry
  | _, [] => []
  | n, x :: l => ⟨x.1, x.2, n⟩ :: ents (n + 1) l
theorem ents_snoc (x : Value × Value) : ∀ (l : List (Value × Value)) (n : Nat), ents n (l ++ [x]) = ents n l ++ [⟨x.1, x.2, n + l.length⟩]
  | [], n => rfl
  | y :: l, n => by
    show _ :: ents (n + 1) (l ++ [x]) = _ :: (ents (n + 1) l ++ _)
    rw [ents_snoc x l (n + 1)]
    have e : n + 1 + l.length = n + (y :: l).length := by simp; omega
    rw [e]
theorem ents_mem {e : MapEntry} : ∀ (l : List (Value × Value)) (n : Nat), e ∈ ents n l → ∃ i, l[i]? = some (e.key, e.val) ∧ e.born = n + i
  | [], n, h => by cases h
  | y :: l, n, h => by
    rcases List.mem_cons.1 h with rfl | h
    · exact ⟨0, rfl, rfl⟩
    · obtain ⟨i, h1, h2⟩ := ents_mem l (n + 1) h
      exact ⟨i + 1, h1, by omega⟩
theorem ents_born : ∀ (l : List (Value × Value)) (n : Nat), (ents n l).map (·.born) = (List.range' n l.length)
  | [], n => rfl
  | y :: l, n => by
    show n :: (ents (n + 1) l).map (·.born) = List.range' n (l.length + 1)
    rw [ents_born l (n + 1), List.range'_succ]
theorem ents_nodup (l : List (Value × Value)) (n : Nat) : ((ents n l).map (·.born)).Nodup := by
  rw [ents_born]; exact List.nodup_range'
/-- Block b is the map of these entries. -/
def mil (b : Nat) (l : List (Value × Value)) : HProp := blk b (.map (ents 0 l).toArray l.length)
/-- Block r walks over the map b of n entries; those of 'seen' are behind it. -/
def itr (r b n c : Nat) (seen : Array Nat) : HProp := blk r (.mapIter (some b) n seen c)
def leftL (l : List (Value × Value)) (seen : Array Nat) : Nat := (leftOf (ents 0 l).toArray seen).size
section
variable {W w : World} {H : List HProp} {P : Program} {k : TypeId} {b r c : Nat} {l : List (Value × Value)} {seen : Array Nat}
variable {ops : Array Oper} {rest : List Oper} {o : Oper} {a : Act} {Q : Exit → Act → World → Prop}
theorem wrapml (hs : sat W H w) (h : ∀ w', sat W (mil w.heap.size [] :: H) w' → wpList P ops Q rest a w') : wpList P ops Q rest a (w.alloc (.map #[] 0)) := h _ (hs.alloc _)
theorem sat.left (hs : sat W (itr r b l.length c seen :: mil b l :: H) w) : w.rangeLeft b r = leftL l seen := by
  have h1 : w.heap[r]? = some (.mapIter (some b) l.length seen c) := sat.heap hs
  have h2 : w.heap[b]? = some (.map (ents 0 l).toArray l.length) := sat.heap hs.drop
  simp only [World.rangeLeft, h1, h2]
  rfl
/-- A store at a key that is not there. -/
theorem mins {x i v : Operand} {ty e : TypeId} {u y : Value} {lt : Lit} (hs : sat W (mil b l :: H) w) (ho : o.op = .mapUpdate ty x i v ∨ o.op = .insert ty x i v) (hw : Region.wanted o (yielded ops a.tmps) = true) (hx : a.eval x = .map (some b)) (hi : a.eval i = y) (hv : a.eval v = u)
    (K : Keyed P k) (ht : P.underlying ty = some (.map k e)) (hkeys : ∀ p ∈ l, ∃ lt, keyOf P k p.1 = some lt) (hkey : keyOf P k y = some lt) (hne : ∀ p ∈ l, p.1 ≠ y)
    (h : ∀ w', sat W (mil b (l ++ [(y, u)]) :: H) w' → wpList P ops Q rest (a.put o.dst undef) w') : wpList P ops Q (o :: rest) a w := by
  have hb : w.heap[b]? = some (.map (ents 0 l).toArray l.length) := sat.heap hs
  refine BigFrame.wpList_want hw fun K' hK => ?_
  have hc : ∀ em, (Instr.checkKey em 10000 k y).run P w = .ok () w := fun em => K.check w em hkey
  have turn : ∀ o', sat W (blk b o' :: H) (ChangeMaps.setBlock w b o') := fun o' =>
    sat.turn hs rfl rfl rfl (by simp [ChangeMaps.setBlock, (Array.getElem?_eq_some_iff.1 hb).1]) (fun k hk hne => by simp [ChangeMaps.setBlock, Ne.symm hne])
  have hkk : ∀ e ∈ (ents 0 l).toArray.toList, ∃ lt, keyOf P k e.key = some lt := fun e he => by
    obtain ⟨j, hj, _⟩ := ents_mem l 0 (by simpa using he)
    exact hkeys _ (List.mem_of_getElem? hj)
  have hno : ∀ e ∈ (ents 0 l).toArray.toList, e.key ≠ y := fun e he => by
    obtain ⟨j, hj, _⟩ := ents_mem l 0 (by simpa using he)
    exact hne _ (List.mem_of_getElem? hj)
  have e0 : (ents 0 l).toArray.push ⟨y, u, l.length⟩ = (ents 0 (l ++ [(y, u)])).toArray := by
    rw [ents_snoc]; simp
  have e1 : l.length + 1 = (l ++ [(y, u)]).length := by simp
  have hrun : (Instr.mapUpdate ty (.map (some b)) y u).run P w = .ok () (ChangeMaps.setBlock w b (.map (ents 0 (l ++ [(y, u)])).toArray (l ++ [(y, u)]).length)) := by
    rcases K.find w hkey (ents 0 l).toArray.toList hkk with ⟨h1, h2⟩ | ⟨j, e, h1, h2, h3⟩
    · rw [← e0, ← e1]
      simp [Instr.mapUpdate, run_underlying ht, MapKept.run_getObj_map hb, hc, h1, MapKept.run_setObj_map _ hb, Result.andThen, ChangeMaps.setBlock]
    · exact (hno e (List.mem_of_getElem? h2) h3).elim
  obtain ⟨ob, hob⟩ : ∃ ob, Obj.map (ents 0 (l ++ [(y, u)])).toArray (l ++ [(y, u)]).length = ob := ⟨_, rfl⟩
  rw [hob] at hrun
  have hs2 : sat W (mil b (l ++ [(y, u)]) :: H) (ChangeMaps.setBlock w b ob) := by unfold mil; rw [hob]; exact turn ob
  have hfin := hK _ _ (h _ hs2)
  unfold Oper.wp execOp
  rcases ho with ho | ho <;> simp [ho, hx, hi, hv, hrun, Result.andThen] <;> exact hfin
/-- The range begins. -/
theorem mrange {x : Operand} {ty e : TypeId} (hs : sat W (mil b l :: H) w) (ho : o.op = .range ty x) (hw : Region.wanted o (yielded ops a.tmps) = true) (hx : a.eval x = .map (some b)) (ht : P.underlying ty = some (.map k e))
    (h : ∀ w', sat W (itr w.heap.size b l.length l.length #[] :: mil b l :: H) w' → wpList P ops Q rest (a.put o.dst (.pointer (some ⟨w.heap.size, 0, none⟩))) w') : wpList P ops Q (o :: rest) a w := by
  have hb : w.heap[b]? = some (.map (ents 0 l).toArray l.length) := sat.heap hs
  have hrun := run_range_map w ty k e b _ _ ht hb
  refine BigFrame.wpList_want hw fun K' hK => ?_
  have hfin := hK _ _ (h _ (hs.alloc _))
  unfold Oper.wp execOp
  simp [ho, hx, hrun, Result.andThen]
  exact hfin
/-- A step. -/
theorem mnext {it : Operand} (hs : sat W (itr r b l.length c seen :: mil b l :: H) w) (hc : l.length ≤ c) (ho : o.op = .next it false) (hw : Region.wanted o (yielded ops a.tmps) = true) (hit : a.eval it = .pointer (some ⟨r, 0, none⟩))
    (hDone : wpList P ops Q rest (a.put o.dst (.tuple #[.bool false])) w)
    (hMore : ∀ (i : Nat) (x y : Value) (w' : World), l[i]? = some (x, y) → leftL l (seen.push i) < leftL l seen → sat W (itr r b l.length l.length (seen.push i) :: mil b l :: H) w' →
      (Instr.entry (.pointer (some ⟨r, 0, none⟩))).run P w' = .ok (.tuple #[x, y]) w' → wpList P ops Q rest (a.put o.dst (.tuple #[.bool true, x, y])) w') : wpList P ops Q (o :: rest) a w := by
  have hr : w.heap[r]? = some (.mapIter (some b) l.length seen c) := sat.heap hs
  have hb : w.heap[b]? = some (.map (ents 0 l).toArray l.length) := sat.heap hs.drop
  refine BigFrame.wpList_want hw fun K' hK => ?_
  unfold Oper.wp execOp
  have hold : ∀ x ∈ (ents 0 l).toArray.toList, x.born < l.length := fun e he => by
    obtain ⟨j, hj, hbn⟩ := ents_mem l 0 (by simpa using he)
    have := (List.getElem?_eq_some_iff.1 hj).1
    omega
  rcases run_next_at (P := P) w o.type r b l.length c seen _ _ hr hb hold hc with ⟨_, hrun⟩ | ⟨e, he, w1, hal, hrun⟩
  · simp [ho, hit, hrun, Result.andThen]
    exact hK _ _ hDone
  · obtain ⟨hem, _⟩ := mem_left he
    obtain ⟨j, hj, hbn⟩ := ents_mem l 0 (by simpa using hem)
    have hbn : e.born = j := by omega
    subst hbn
    have hs1 : sat W (itr r b l.length c seen :: mil b l :: H) w1 := by
      rcases hal with rfl | rfl
      · exact hs
      · exact hs.drew
    have hr1 : w1.heap[r]? = some (.mapIter (some b) l.length seen c) := sat.heap hs1
    have hs2 : sat W (itr r b l.length l.length (seen.push e.born) :: mil b l :: H) (setBlock w1 r (.mapIter (some b) l.length (seen.push e.born) l.length)) := by
      refine sat.turn hs1 rfl rfl rfl ?_ (fun k hk hne => by simp [setBlock, Ne.symm hne])
      simp [setBlock, (Array.getElem?_eq_some_iff.1 hr1).1]
    have hr2 := sat.heap hs2
    have hb2 := sat.heap hs2.drop
    have hen := run_entry_at (P := P) _ r b l.length seen _ _ e hr2 hb2 hem (by simpa using ents_nodup l 0)
    have hlt := left_shrinks _ seen e he
    simp [ho, hit, hrun, Result.andThen]
    exact hK _ _ (hMore e.born e.key e.val _ hj hlt hs2 hen)
/-- What the step handed out, read. -/
theorem mentry {it : Operand} {x y : Value} (hen : (Instr.entry (.pointer (some ⟨r, 0, none⟩))).run P w = .ok (.tuple #[x, y]) w) (ho : o.op = .entry it) (hw : Region.wanted o (yielded ops a.tmps) = true) (hit : a.eval it = .pointer (some ⟨r, 0, none⟩))
    (h : wpList P ops Q rest (a.put o.dst (.tuple #[x, y])) w) : wpList P ops Q (o :: rest) a w := by
  refine BigFrame.wpList_want hw fun K' hK => ?_
  unfold Oper.wp execOp
  simp [ho, hit, hen, Result.andThen]
  exact hK _ _ h
end
end Go.Mem
