/-
  Maps in the small logic of memory: a block that is a map, said as a function from keys to values.
-/
import Derived.Test.YtcheljogpffabaaSat
import Derived.Maps.Keyed
import Derived.Carry
namespace Go.Mem
open Go.RowKit Go.Maps

/-- Block b is a map: at the key 'enc x' it holds m x. -/
def mp (P : Program) (k : TypeId) {α : Type} (enc : α → Value) (b : Nat) (m : α → Option Value) : HProp := fun h =>
  ∃ es clock, h b = some (.map es clock) ∧ (∀ e ∈ es.toList, ∃ x, e.key = enc x ∧ m x = some e.val ∧ ∃ l, keyOf P k (enc x) = some l) ∧
    (∀ x v, m x = some v → ∃ e ∈ es.toList, e.key = enc x) ∧ es.toList.Pairwise (fun e e' : MapEntry => e.key ≠ e'.key)

def upd {α : Type} [DecidableEq α] (m : α → Option Value) (x : α) (v : Value) : α → Option Value := fun y => if y = x then some v else m y

section
variable {W w : World} {H : List HProp} {P : Program} {k : TypeId} {α : Type} {enc : α → Value} {b : Nat} {m : α → Option Value}

theorem sat.map_new (hs : sat W H w) (P : Program) (k : TypeId) (enc : α → Value) : sat W (mp P k enc w.heap.size (fun _ => none) :: H) (w.alloc (.map #[] 0)) :=
  (hs.alloc (.map #[] 0)).imp fun h hb => ⟨#[], 0, hb, by simp, by simp, by simp⟩

theorem sat.map_open (hs : sat W (mp P k enc b m :: H) w) : ∃ es clock, w.heap[b]? = some (.map es clock) ∧ sat W (blk b (.map es clock) :: H) w ∧ (∀ e ∈ es.toList, ∃ x, e.key = enc x ∧ m x = some e.val ∧ ∃ l, keyOf P k (enc x) = some l) ∧
    (∀ x v, m x = some v → ∃ e ∈ es.toList, e.key = enc x) ∧ es.toList.Pairwise (fun e e' : MapEntry => e.key ≠ e'.key) := by
  obtain ⟨es, hs⟩ := hs.ex
  obtain ⟨clock, hs⟩ := hs.ex
  have h2 := hs.imp (B := fun h => (blk b (.map es clock) h) ∧ ((∀ e ∈ es.toList, ∃ x, e.key = enc x ∧ m x = some e.val ∧ ∃ l, keyOf P k (enc x) = some l) ∧
    (∀ x v, m x = some v → ∃ e ∈ es.toList, e.key = enc x) ∧ es.toList.Pairwise (fun e e' : MapEntry => e.key ≠ e'.key))) (fun _ h => h)
  have h3 := h2.imp (B := fun h => ((∀ e ∈ es.toList, ∃ x, e.key = enc x ∧ m x = some e.val ∧ ∃ l, keyOf P k (enc x) = some l) ∧
    (∀ x v, m x = some v → ∃ e ∈ es.toList, e.key = enc x) ∧ es.toList.Pairwise (fun e e' : MapEntry => e.key ≠ e'.key)) ∧ blk b (.map es clock) h) (fun _ h => ⟨h.2, h.1⟩)
  obtain ⟨⟨p1, p2, p3⟩, hs⟩ := h3.and_pure
  exact ⟨es, clock, hs.heap, hs, p1, p2, p3⟩

theorem map_found (K : Keyed P k) (inj : ∀ x y, enc x = enc y → x = y) {es : Array MapEntry} (p1 : ∀ e ∈ es.toList, ∃ x, e.key = enc x ∧ m x = some e.val ∧ ∃ l, keyOf P k (enc x) = some l)
    (p2 : ∀ x v, m x = some v → ∃ e ∈ es.toList, e.key = enc x) {y : α} {l : Lit} (hkey : keyOf P k (enc y) = some l) (w : World) :
    ((Instr.findKey k (enc y) es.toList).run P w = .ok none w ∧ m y = none ∧ ∀ e ∈ es.toList, e.key ≠ enc y) ∨ ∃ j e, (Instr.findKey k (enc y) es.toList).run P w = .ok (some (j, e.val)) w ∧ es[j]? = some e ∧ e.key = enc y ∧ m y = some e.val := by
  rcases K.find w hkey es.toList (fun e he => by obtain ⟨x, hx, _, l, hl⟩ := p1 e he; exact ⟨l, by rw [hx]; exact hl⟩) with ⟨h1, h2⟩ | ⟨j, e, h1, h2, h3⟩
  · left
    refine ⟨h1, ?_, h2⟩
    cases hm : m y with
    | none => rfl
    | some v => obtain ⟨e, he, hk⟩ := p2 y v hm; exact (h2 e he hk).elim
  · right
    refine ⟨j, e, h1, by simpa using h2, h3, ?_⟩
    have he : e ∈ es.toList := List.mem_of_getElem? h2
    obtain ⟨x, hx, hm, _⟩ := p1 e he
    rw [h3] at hx
    rw [inj _ _ hx]; exact hm

/-- A look-up. -/
theorem lk {ops : Array Oper} {rest : List Oper} {o : Oper} {a : Act} {Q : Exit → Act → World → Prop} {x i : Operand} {ty e : TypeId} {z : Value} {y : α} {l : Lit}
    (hs : sat W (mp P k enc b m :: H) w) (ho : o.op = .lookup ty x i false) (hw : Region.wanted o (yielded ops a.tmps) = true) (hx : a.eval x = .map (some b)) (hi : a.eval i = enc y)
    (K : Keyed P k) (ht : P.underlying ty = some (.map k e)) (hz : (zeroValue e).run P w = .ok z w) (inj : ∀ x y, enc x = enc y → x = y) (hkey : keyOf P k (enc y) = some l)
    (h : wpList P ops Q rest (a.put o.dst ((m y).getD z)) w) : wpList P ops Q (o :: rest) a w := by
  obtain ⟨es, clock, hb, _, p1, p2, _⟩ := hs.map_open
  refine BigFrame.wpList_want hw fun K' hK => ?_
  unfold Oper.wp execOp
  have hc : ∀ em, (Instr.checkKey em 10000 k (enc y)).run P w = .ok () w := fun em => K.check w em hkey
  rcases map_found K inj p1 p2 hkey w with ⟨h1, hm, _⟩ | ⟨j, e0, h1, h2, h3, hm⟩
  · simp [ho, hx, hi, Instr.lookup, run_underlying ht, MapKept.run_getObj_map hb, hc, h1, hz, Result.andThen]
    rw [hm] at h; exact hK _ _ h
  · simp [ho, hx, hi, Instr.lookup, run_underlying ht, MapKept.run_getObj_map hb, hc, h1, Result.andThen]
    rw [hm] at h; exact hK _ _ h
/-- A store. -/
theorem mu [DecidableEq α] {ops : Array Oper} {rest : List Oper} {o : Oper} {a : Act} {Q : Exit → Act → World → Prop} {x i v : Operand} {ty e : TypeId} {u : Value} {y : α} {l : Lit}
    (hs : sat W (mp P k enc b m :: H) w) (ho : o.op = .mapUpdate ty x i v ∨ o.op = .insert ty x i v) (hw : Region.wanted o (yielded ops a.tmps) = true) (hx : a.eval x = .map (some b)) (hi : a.eval i = enc y) (hv : a.eval v = u)
    (K : Keyed P k) (ht : P.underlying ty = some (.map k e)) (inj : ∀ x y, enc x = enc y → x = y) (hkey : keyOf P k (enc y) = some l)
    (h : ∀ w', sat W (mp P k enc b (upd m y u) :: H) w' → wpList P ops Q rest (a.put o.dst undef) w') : wpList P ops Q (o :: rest) a w := by
  obtain ⟨es, clock, hb, hs, p1, p2, p3⟩ := hs.map_open
  refine BigFrame.wpList_want hw fun K' hK => ?_
  have hc : ∀ em, (Instr.checkKey em 10000 k (enc y)).run P w = .ok () w := fun em => K.check w em hkey
  have turn : ∀ o', sat W (blk b o' :: H) (ChangeMaps.setBlock w b o') := fun o' =>
    hs.turn rfl rfl rfl (by simp [ChangeMaps.setBlock, (Array.getElem?_eq_some_iff.1 hb).1]) (fun k hk hne => by simp [ChangeMaps.setBlock, Ne.symm hne])
  have run : ∃ es' clock', (Instr.mapUpdate ty (.map (some b)) (enc y) u).run P w = .ok () (ChangeMaps.setBlock w b (.map es' clock')) ∧ (∀ e ∈ es'.toList, ∃ x, e.key = enc x ∧ upd m y u x = some e.val ∧ ∃ l, keyOf P k (enc x) = some l) ∧
    (∀ x v, upd m y u x = some v → ∃ e ∈ es'.toList, e.key = enc x) ∧ es'.toList.Pairwise (fun e e' : MapEntry => e.key ≠ e'.key) := by
    rcases map_found K inj p1 p2 hkey w with ⟨h1, hm, hne⟩ | ⟨j, e0, h1, h2, h3, hm⟩
    · refine ⟨es.push ⟨enc y, u, clock⟩, clock + 1, ?_, fun e he => ?_, fun x v hxv => ?_, ?_⟩
      · simp [Instr.mapUpdate, run_underlying ht, MapKept.run_getObj_map hb, hc, h1, MapKept.run_setObj_map _ hb, Result.andThen, ChangeMaps.setBlock]
      · simp only [Array.toList_push, List.mem_append, List.mem_singleton] at he
        rcases he with he | rfl
        · obtain ⟨x, hx, hmx, hl⟩ := p1 e he
          refine ⟨x, hx, ?_, hl⟩
          unfold upd
          rw [if_neg (fun e' => hne e he (by rw [hx, e']))]; exact hmx
        · exact ⟨y, rfl, by simp [upd], l, hkey⟩
      · unfold upd at hxv
        split at hxv
        · rename_i e; subst e; exact ⟨⟨enc x, u, clock⟩, by simp, rfl⟩
        · obtain ⟨e, he, hk⟩ := p2 x v hxv
          exact ⟨e, by simp [he], hk⟩
      · rw [Array.toList_push, List.pairwise_append]
        exact ⟨p3, by simp, fun e he e' he' => by rw [List.mem_singleton.1 he']; exact hne e he⟩
    · have hj : es[j]? = some e0 := h2
      obtain ⟨hjl, hje⟩ := Array.getElem?_eq_some_iff.1 hj
      have hmem : ∀ e, e ∈ (es.modify j fun e : MapEntry => { e with key := enc y, val := u }).toList → (e ∈ es.toList ∧ e.key ≠ enc y) ∨ (e.key = enc y ∧ e.val = u) := by
        intro e he
        obtain ⟨i, hi⟩ := List.mem_iff_getElem?.1 he
        rw [Array.getElem?_toList, Array.getElem?_modify] at hi
        by_cases hij : j = i
        · subst hij
          rw [if_pos rfl, hj] at hi
          have : e = { e0 with key := enc y, val := u } := by simpa using hi.symm
          right; rw [this]; exact ⟨rfl, rfl⟩
        · rw [if_neg hij] at hi
          left
          have hi' : es.toList[i]? = some e := by simpa using hi
          refine ⟨List.mem_of_getElem? hi', ?_⟩
          intro hke
          have hne := List.pairwise_iff_getElem.1 p3
          obtain ⟨hil, hie⟩ := List.getElem?_eq_some_iff.1 hi'
          have hjl' : j < es.toList.length := by simpa using hjl
          have e0e : es.toList[j] = e0 := by simpa using hje
          rcases Nat.lt_or_gt_of_ne hij with hlt | hlt
          · exact hne j i hjl' hil hlt (by rw [e0e, hie, h3, hke])
          · exact hne i j hil hjl' hlt (by rw [e0e, hie, h3, hke])
      refine ⟨es.modify j fun e : MapEntry => { e with key := enc y, val := u }, clock, ?_, fun e he => ?_, fun x v hxv => ?_, ?_⟩
      · have hst := K.stays w hkey
        simp [Instr.mapUpdate, run_underlying ht, MapKept.run_getObj_map hb, hc, h1, hj, h3, hst, MapKept.run_setObj_map _ hb, Result.andThen, ChangeMaps.setBlock]
      · rcases hmem e he with ⟨he, hk⟩ | ⟨hk, hv⟩
        · obtain ⟨x, hx, hmx, hl⟩ := p1 e he
          refine ⟨x, hx, ?_, hl⟩
          unfold upd
          rw [if_neg (fun e' => hk (by rw [hx, e']))]; exact hmx
        · exact ⟨y, hk, by simp [upd, hv], l, hkey⟩
      · have hin : ∀ (i : Nat) (e : MapEntry), es.toList[i]? = some e → ∃ e' ∈ (es.modify j fun e : MapEntry => { e with key := enc y, val := u }).toList, e'.key = e.key := by
          intro i e hi
          have hi' : es[i]? = some e := by simpa using hi
          by_cases hij : j = i
          · subst hij
            refine ⟨{ e0 with key := enc y, val := u }, List.mem_iff_getElem?.2 ⟨j, ?_⟩, ?_⟩
            · rw [Array.getElem?_toList, Array.getElem?_modify, if_pos rfl, hj]; rfl
            · rw [hj] at hi'; cases hi'; exact h3.symm
          · refine ⟨e, List.mem_iff_getElem?.2 ⟨i, ?_⟩, rfl⟩
            rw [Array.getElem?_toList, Array.getElem?_modify, if_neg hij]; exact hi'
        unfold upd at hxv
        split at hxv
        · rename_i e; subst e
          obtain ⟨e', he', hk⟩ := hin j e0 (by simpa using hj)
          exact ⟨e', he', hk.trans h3⟩
        · obtain ⟨e, he, hk⟩ := p2 x v hxv
          obtain ⟨i, hi⟩ := List.mem_iff_getElem?.1 he
          obtain ⟨e', he', hk'⟩ := hin i e hi
          exact ⟨e', he', hk'.trans hk⟩
      · have hkeys : (es.modify j fun e : MapEntry => { e with key := enc y, val := u }).toList.map (·.key) = es.toList.map (·.key) := by
          apply List.ext_getElem?
          intro i
          rw [List.getElem?_map, List.getElem?_map, Array.getElem?_toList, Array.getElem?_modify]
          by_cases hij : j = i
          · subst hij; rw [if_pos rfl, Array.getElem?_toList, hj]; simp [h3]
          · rw [if_neg hij, Array.getElem?_toList]
        have hp : (es.toList.map (·.key)).Pairwise (· ≠ ·) := List.pairwise_map.2 p3
        rw [← hkeys] at hp
        exact List.pairwise_map.1 hp
  obtain ⟨es', clock', hrun, q1, q2, q3⟩ := run
  have hfin := hK _ _ (h _ ((turn (.map es' clock')).imp fun h hb => ⟨es', clock', hb, q1, q2, q3⟩))
  unfold Oper.wp execOp
  rcases ho with ho | ho <;> simp [ho, hx, hi, hv, hrun, Result.andThen] <;> exact hfin

/-- A map is made. -/
theorem wrapm {ops : Array Oper} {rest : List Oper} {a : Act} {Q : Exit → Act → World → Prop} (P : Program) (k : TypeId) (enc : α → Value) (hs : sat W H w)
    (h : ∀ w', sat W (mp P k enc w.heap.size (fun _ => none) :: H) w' → wpList P ops Q rest a w') : wpList P ops Q rest a (w.alloc (.map #[] 0)) := h _ (hs.map_new P k enc)
end
end Go.Mem
