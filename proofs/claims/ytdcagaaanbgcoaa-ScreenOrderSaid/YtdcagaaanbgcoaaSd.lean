/-
  A region that draws its order: reads, and operations that do more, one at a time; walked once.
-/
import Derived.Test.YtdcagaaanbgcoaaSat
import Derived.OrdersHeld
namespace Go.Mem
open Go.RowKit

/-- An operation that yields a value and no call. -/
def isRead (o : Oper) : Bool :=
  match o.op with
  | .move _ | .assign _ | .pick _ _ _ | .load _ _ | .nilCheck _ | .binOp _ _ _ _ _ | .unOp _ _ _ | .convert _ _ _ | .slice _ _ _ _ _ | .fieldAddr _ _ _ | .field _ _ _
  | .indexAddr _ _ _ | .index _ _ _ | .lookup _ _ _ _ | .extract _ _ | .build _ _ | .makeInterface _ _ | .typeAssert _ _ _ _ => true
  | .call c => (match c.callee with | .builtin .len | .builtin .cap | .builtin .min | .builtin .max => true | _ => false)
  | _ => false

theorem ok_value {P : Program} {s : Sem Value} {w w' : World} {n : Next} (h : (do pure (Next.value (← s)) : Sem Next).run P w = .ok n w') : ∃ v, n = .value v := by
  rw [Sem.run_bind] at h
  cases hs : s.run P w with
  | ok v w1 => rw [hs, Result.andThen_ok, Sem.run_pure] at h; cases h; exact ⟨v, rfl⟩
  | halt x w1 => rw [hs] at h; cases h
theorem ok_pure {P : Program} {v : Value} {w w' : World} {n : Next} (h : (pure (Next.value v) : Sem Next).run P w = .ok n w') : ∃ v, n = .value v := by
  rw [Sem.run_pure] at h; cases h; exact ⟨v, rfl⟩
theorem ok_then {α : Type} {P : Program} {s : Sem α} {k : α → Sem Next} {w w' : World} {n : Next} (h : ∀ a w w' n, (k a).run P w = .ok n w' → ∃ v, n = .value v) (hr : (s >>= k).run P w = .ok n w') : ∃ v, n = .value v := by
  rw [Sem.run_bind] at hr
  cases hs : s.run P w with
  | ok v w1 => rw [hs, Result.andThen_ok] at hr; exact h _ _ _ _ hr
  | halt x w1 => rw [hs] at hr; cases hr
theorem isRead_value {P : Program} {ρ : Operand → Value} {o : Oper} (h : isRead o = true) {w w' : World} {n : Next} (hr : (execOp ρ o).run P w = .ok n w') : ∃ v, n = .value v := by
  obtain ⟨dst, op, type, pos, after, guard⟩ := o
  cases op
  case call c =>
    obtain ⟨callee, args, at_⟩ := c
    cases callee
    case builtin b =>
      cases b <;> first
        | (simp [isRead] at h; done)
        | (simp only [execOp, resolve, Sem.run_bind, Sem.run_pure, Result.andThen_ok, invoke, builtin] at hr; exact ok_value (by rw [Sem.run_bind]; exact hr))
    all_goals exact absurd h (by simp [isRead])
  case pick c a b =>
    simp only [execOp, Sem.run_bind] at hr
    cases hs : (asBool (ρ c)).run P w with
    | ok v w1 => rw [hs, Result.andThen_ok, Sem.run_pure] at hr; cases hr; exact ⟨_, rfl⟩
    | halt x w1 => rw [hs] at hr; cases hr
  case nilCheck x =>
    simp only [execOp] at hr
    split at hr
    · simp [go_sem] at hr
    · simp [go_sem] at hr
    · simp [go_sem] at hr
    · split at hr
      · simp [go_sem] at hr
      · refine ok_then (fun a w1 w2 n h => ?_) hr
        refine ok_then (fun b w1 w2 n h => ?_) h
        split at h
        · exact ok_then (fun a w1 w2 n h => ok_pure h) h
        · exact ok_pure h
      · exact ok_pure hr
    · exact ok_pure hr
  all_goals first
    | (simp [isRead] at h; done)
    | exact ok_pure hr
    | exact ok_value hr

/-- What is read first: a value in every world that meets S. -/
theorem yieldsIf_of_quiet {P : Program} {ops : Array Oper} {S : World → Prop} {o : Oper} {a : Act} {K : Act → Prop} (hr : isRead o = true) (h : if Region.wanted o (yielded ops a.tmps) then o.quiet P a S K else K (a.put o.dst undef)) :
    ∃ v, ((∃ w, S w) → YieldsIf P ops S o v a) ∧ K (a.put o.dst v) := by
  split at h
  · rename_i hw
    obtain ⟨v, h1, h2⟩ := h
    refine ⟨v, fun _ => .inl ⟨hw, fun w hS => ?_⟩, h2⟩
    have h3 := h1 w hS
    unfold Oper.quietAt at h3
    cases hx : (execOp a.eval o).run P w with
    | ok n w' =>
      obtain ⟨u, rfl⟩ := isRead_value hr hx
      rw [hx] at h3
      obtain ⟨e1, e2⟩ := h3
      rw [e1, e2]
    | halt x w' => rw [hx] at h3; exact h3.elim
  · rename_i hw
    exact ⟨undef, fun _ => .inr ⟨by simpa using hw, rfl⟩, h⟩

/-- The order of the walk: reads, then one operation that does more; and so on; reads. -/
abbrev Sched := List (List Nat × List Nat)
def rdB (ops : Array Oper) (l : Array Bool) (i : Nat) : Bool := (match ops[i]? with | some o => isRead o | none => false) && Region.free .any ops l i && (Region.ready .any ops l).contains i
def readsB (ops : Array Oper) : List Nat → Array Bool → Bool × Array Bool
  | [], l => (true, l)
  | i :: r, l => if rdB ops l i = true then readsB ops r (l.setIfInBounds i true) else (false, l)
/-- 'I' stand side by side: all may come up, and nothing else before all of them have. -/
def gateB (ops : Array Oper) (l : Array Bool) (I : List Nat) : Bool :=
  I.all (fun i => (Region.ready .any ops l).contains i) &&
  (List.range ops.size).all fun j => I.contains j || l.getD j true || (match ops[j]? with | none => true | some o => o.after.any (fun e => Region.binds .any e && !I.contains e.on && !l.getD e.on true) || I.all (fun i => o.after.any fun e => Region.binds .any e && e.on == i))
def nodupB : List Nat → Bool
  | [] => true
  | i :: r => !r.contains i && nodupB r
def setAll (l : Array Bool) : List Nat → Array Bool
  | [] => l
  | i :: r => (setAll l r).setIfInBounds i true
def schedB (ops : Array Oper) (last : List Nat) : Sched → Array Bool → Bool
  | [], l => (readsB ops last l).1 && (Region.ready .any ops (readsB ops last l).2).isEmpty
  | (rs, [i]) :: r, l => (readsB ops rs l).1 && (match ops[i]? with | some _ => true | none => false) && (match Region.ready .any ops (readsB ops rs l).2 with | [j] => j == i | _ => false) && schedB ops last r ((readsB ops rs l).2.setIfInBounds i true)
  | (rs, I) :: r, l => (readsB ops rs l).1 && gateB ops (readsB ops rs l).2 I && nodupB I && schedB ops last r (setAll (readsB ops rs l).2 I)

def nth : List Oper → Nat → List Oper
  | [], _ => []
  | o :: _, 0 => [o]
  | _ :: r, n + 1 => nth r n
theorem nth_eq : ∀ (l : List Oper) (i : Nat), nth l i = (match l[i]? with | some o => [o] | none => [])
  | [], _ => rfl
  | _ :: _, 0 => rfl
  | _ :: r, n + 1 => by unfold nth; rw [nth_eq r n]; rfl
def nths (l : List Oper) : List Nat → List Oper
  | [] => []
  | i :: r => nth l i ++ nths l r

/-- Behind an operation that does more; behind a set of them, that come in any order: 'G D': what is known when those of D have come. -/
def wpSeg (P : Program) (ops : Array Oper) (Q : Exit → Act → World → Prop) (last : List Oper) : (S F : World → Prop) → List (List Oper × List Nat × List (List Oper)) → Act → Prop
  | S, F, [], a => wpQuiet P ops S (fun a' => ∀ w, F w → Q .normal a' w) last a
  | S, F, (rs, _, [o]) :: r, a => wpQuiet P ops S (fun a' => ∀ w, F w → wpList P ops (Exit.then (fun a2 w2 => ∃ S' F' : World → Prop, (∀ w, S' w → S w) ∧ (∀ w, F' w → S' w) ∧ F' w2 ∧ wpSeg P ops Q last S' F' r a2) Q) o a' w) rs a
  | S, F, (rs, I, _) :: r, a => wpQuiet P ops S (fun a' => ∃ (G : List Nat → World → Prop) (S' F' : World → Prop), (∀ w, F w → G [] w) ∧ (∀ D w, G D w → S w) ∧ (∀ w, S' w → S w) ∧ (∀ w, F' w → S' w) ∧ (∀ D w, D.Perm I → G D w → F' w) ∧
      (∀ i ∈ I, ∀ D w, D.Nodup → (∀ j ∈ D, j ∈ I) → i ∉ D → G D w → wpList P ops (Exit.then (fun a2 w2 => a2 = a' ∧ G (i :: D) w2) Q) (nth ops.toList i) a' w) ∧ wpSeg P ops Q last S' F' r a') rs a
def segs (l : List Oper) : Sched → List (List Oper × List Nat × List (List Oper))
  | [] => []
  | (rs, I) :: r => (nths l rs, I, I.map (nth l)) :: segs l r

theorem letsOut_then {Q : Exit → Act → World → Prop} {K : Act → World → Prop} (h : LetsOut (Exit.then K Q)) : LetsOut Q := h
theorem wpOp_of_then {P : Program} {ops : Array Oper} {Q : Exit → Act → World → Prop} {K : Act → World → Prop} {i : Nat} {o : Oper} {a : Act} {w : World} (hi : ops[i]? = some o) (h : wpList P ops (Exit.then K Q) [o] a w) : wpOp P ops Q i K a w := by
  unfold wpOp
  rw [hi]
  unfold wpList at h
  simp only
  split at h
  · rename_i hw
    rw [if_pos hw]
    rcases h with h | ⟨h1, h2⟩
    · left
      unfold Oper.wp at *
      generalize (execOp a.eval o).run P w = r at *
      cases r with
      | ok n w' =>
        cases n <;> simp only [Oper.upon] at h ⊢
        case value u => exact h
        case skip => exact h
        case defer d => exact h
        case enter f args => exact Calls.mono h fun e w'' he => by cases e <;> exact he
        case row row args => exact Rows.mono h fun u w'' he => he
      | halt x w' => cases x <;> simp only [Oper.upon] at h ⊢; exact h
    · exact .inr ⟨h1, letsOut_then h2⟩
  · rename_i hw
    rw [if_neg hw]; exact h

section
variable {P : Program} {l : List Oper} {Q : Exit → Act → World → Prop}
theorem wpAnyH_weaken {ops : Array Oper} {md : Region.Mode} {S S' : World → Prop} (hS : ∀ w, S' w → S w) : ∀ (fuel : Nat) (listed : Array Bool) (a : Act) (w : World), wpAnyH P md ops Q S' fuel listed a w → wpAnyH P md ops Q S fuel listed a w
  | 0, _, _, _, h => h
  | fuel + 1, _, _, _, h => ⟨h.1, fun i hi => wpOp_mono (fun a' w' h' => ⟨hS _ h'.1, wpAnyH_weaken hS fuel _ a' w' h'.2⟩) (h.2 i hi)⟩

theorem mix_reads (hs : Region.noSelect l.toArray = true) (hQ : ∀ c a d v w, Q (.panic c) (Act.put a (some d) v) w → Q (.panic c) a w) {S : World → Prop} {w : World} (hw : S w) {K : Act → Prop} :
    ∀ (rs : List Nat) (fuel : Nat) (listed : Array Bool) (a : Act), (readsB l.toArray rs listed).1 = true → wpQuiet P l.toArray S K (nths l rs) a →
      (∀ a', K a' → wpAnyH P .any l.toArray Q S fuel (readsB l.toArray rs listed).2 a' w) → wpAnyH P .any l.toArray Q S (fuel + rs.length) listed a w
  | [], fuel, listed, a, _, h, next => next a h
  | i :: rs, fuel, listed, a, hb, h, next => by
    unfold readsB at hb next
    split at hb
    · rename_i hc
      rw [if_pos hc] at next
      unfold rdB at hc
      simp only [Bool.and_eq_true] at hc
      obtain ⟨⟨h1, h2⟩, h3⟩ := hc
      cases ho : l[i]? with
      | none => rw [List.getElem?_toArray, ho] at h1; cases h1
      | some o =>
        have hi : l.toArray[i]? = some o := by rw [List.getElem?_toArray]; exact ho
        rw [hi] at h1
        have e : nths l (i :: rs) = o :: nths l rs := by rw [show nths l (i :: rs) = nth l i ++ nths l rs from rfl, nth_eq, ho]; rfl
        rw [e] at h
        unfold wpQuiet at h
        obtain ⟨v, hy, hk⟩ := yieldsIf_of_quiet h1 h
        exact wpAnyH_take hi hs h2 h3 (fun c a w hq => by cases hd : o.dst with | none => rw [hd] at hq; exact hq | some d => rw [hd] at hq; exact hQ c a d _ w hq) (hy ⟨w, hw⟩) hw (mix_reads hs hQ hw rs fuel _ _ hb hk next)
    · cases hb

def Sched.size (last : List Nat) : Sched → Nat
  | [] => last.length
  | (rs, I) :: r => rs.length + I.length + Sched.size last r

theorem setAll_size (l : Array Bool) : ∀ I : List Nat, (setAll l I).size = l.size
  | [] => rfl
  | i :: r => by unfold setAll; rw [Array.size_setIfInBounds]; exact setAll_size l r
theorem setAll_get (l : Array Bool) (j : Nat) (d : Bool) : ∀ I : List Nat, (setAll l I).getD j d = if j ∈ I ∧ j < l.size then true else l.getD j d
  | [] => by simp [setAll]
  | i :: r => by
    have ih := setAll_get l j d r
    unfold setAll
    by_cases h : i = j
    · subst h
      by_cases hl : i < l.size
      · rw [if_pos ⟨by simp, hl⟩]
        have : i < (setAll l r).size := by rw [setAll_size]; exact hl
        simp [Array.getD, this]
      · rw [if_neg (fun h => hl h.2)]
        have : ¬ i < (setAll l r).size := by rw [setAll_size]; exact hl
        simp [Array.getD, this, hl]
    · rw [getD_set_ne d h, ih]
      simp only [List.mem_cons]
      have : (j = i ∨ j ∈ r) ↔ j ∈ r := ⟨fun h' => h'.resolve_left (fun e => h e.symm), .inr⟩
      simp only [this]
theorem setAll_perm {l : Array Bool} {D I : List Nat} (p : D.Perm I) : setAll l D = setAll l I := by
  apply Array.ext
  · rw [setAll_size, setAll_size]
  · intro j h1 h2
    have e1 := setAll_get l j true D
    have e2 := setAll_get l j true I
    simp only [p.mem_iff] at e1
    rw [← e2] at e1
    simpa [Array.getD, h1, h2] using e1
theorem nodupB_nodup : ∀ {I : List Nat}, nodupB I = true → I.Nodup
  | [], _ => List.nodup_nil
  | i :: r, h => by
    unfold nodupB at h
    simp only [Bool.and_eq_true, Bool.not_eq_true', List.contains_eq_mem, decide_eq_false_iff_not] at h
    exact List.nodup_cons.2 ⟨h.1, nodupB_nodup h.2⟩

theorem gate_ready {ops : Array Oper} {l : Array Bool} {I D : List Nat} (hg : gateB ops l I = true) (hD : ∀ j ∈ D, j ∈ I) (hne : ∃ i ∈ I, i ∉ D) :
    (∀ j ∈ Region.ready .any ops (setAll l D), j ∈ I ∧ j ∉ D) ∧ Region.ready .any ops (setAll l D) ≠ [] := by
  unfold gateB at hg
  rw [Bool.and_eq_true, List.all_eq_true, List.all_eq_true] at hg
  obtain ⟨g1, g2⟩ := hg
  have hr : ∀ i ∈ I, i ∈ Region.ready .any ops l := fun i hi => by simpa using g1 i hi
  have hun : ∀ i ∈ I, l.getD i true = false := fun i hi => (mem_ready.1 (hr i hi)).1
  have hlt : ∀ i ∈ I, i < l.size := fun i hi => by
    have := hun i hi
    rcases Nat.lt_or_ge i l.size with h | h
    · exact h
    · simp [Array.getD, Nat.not_lt.2 h] at this
  refine ⟨fun j hj => ?_, ?_⟩
  · obtain ⟨h0, o, ho, hall⟩ := mem_ready.1 hj
    rw [setAll_get] at h0
    have hjD : j ∉ D := fun h => by
      rw [if_pos ⟨h, hlt j (hD j h)⟩] at h0
      cases h0
    rw [if_neg (fun h => hjD h.1)] at h0
    refine ⟨?_, hjD⟩
    have hjs : j < ops.size := (Array.getElem?_eq_some_iff.1 ho).1
    have h2 := g2 j (List.mem_range.2 hjs)
    rw [h0, ho] at h2
    simp only [Bool.or_false, Bool.or_eq_true, List.contains_eq_mem, decide_eq_true_eq] at h2
    rcases h2 with h2 | h2 | h2
    · exact h2
    · obtain ⟨k, hk, h2⟩ := Array.any_eq_true.1 h2
      simp only [Bool.and_eq_true, Bool.not_eq_true', decide_eq_false_iff_not] at h2
      obtain ⟨⟨hb, hnI⟩, hunl⟩ := h2
      have h3 := hall _ (Array.getElem_mem hk) hb
      rw [setAll_get] at h3
      rw [if_neg (fun h => hnI (hD _ h.1))] at h3
      rcases Nat.lt_or_ge (o.after[k]).on l.size with h | h
      · simp [Array.getD, h] at h3 hunl
        rw [h3] at hunl; cases hunl
      · simp [Array.getD, Nat.not_lt.2 h] at h3
    · obtain ⟨i, hi, hnD⟩ := hne
      rw [List.all_eq_true] at h2
      obtain ⟨k, hk, h4⟩ := Array.any_eq_true.1 (h2 i hi)
      simp only [Bool.and_eq_true, beq_iff_eq] at h4
      have h3 := hall _ (Array.getElem_mem hk) h4.1
      rw [h4.2, setAll_get, if_neg (fun h => hnD h.1)] at h3
      have h5 := hun i hi
      have h6 := hlt i hi
      simp [Array.getD, h6] at h3 h5
      rw [h3] at h5; cases h5
  · obtain ⟨i, hi, hnD⟩ := hne
    intro he
    have h1 := mem_ready.1 (hr i hi)
    have : i ∈ Region.ready .any ops (setAll l D) := mem_ready.2 ⟨by rw [setAll_get, if_neg (fun h => hnD h.1)]; exact h1.1, by
      obtain ⟨o, ho, hall⟩ := h1.2
      refine ⟨o, ho, fun e he hb => ?_⟩
      have := hall e he hb
      rw [setAll_get]
      split
      · rfl
      · exact this⟩
    rw [he] at this
    cases this

theorem perm_part : ∀ (D I : List Nat), D.Nodup → (∀ j ∈ D, j ∈ I) → ∃ r, I.Perm (D ++ r)
  | [], I, _, _ => ⟨I, List.Perm.refl _⟩
  | i :: D, I, hn, hs => by
    obtain ⟨h1, h2⟩ := List.nodup_cons.1 hn
    have hi := hs i (by simp)
    have p : I.Perm (i :: I.erase i) := List.perm_cons_erase hi
    obtain ⟨r, hr⟩ := perm_part D (I.erase i) h2 fun j hj => by
      have hne : j ≠ i := by rintro rfl; exact h1 hj
      exact (List.mem_erase_of_ne hne).2 (hs j (by simp [hj]))
    exact ⟨r, p.trans (hr.cons i)⟩
theorem mix_set {S : World → Prop} {G : List Nat → World → Prop} {I : List Nat} {base : Array Bool} {a : Act} {fuel : Nat} (hnd : I.Nodup) (hg : gateB l.toArray base I = true) (hG : ∀ D w, G D w → S w)
    (hstep : ∀ i ∈ I, ∀ D w, D.Nodup → (∀ j ∈ D, j ∈ I) → i ∉ D → G D w → wpList P l.toArray (Exit.then (fun a2 w2 => a2 = a ∧ G (i :: D) w2) Q) (nth l i) a w)
    (next : ∀ D w, D.Perm I → G D w → wpAnyH P .any l.toArray Q S fuel (setAll base I) a w) :
    ∀ (n : Nat) (D : List Nat) (w : World), D.Nodup → (∀ j ∈ D, j ∈ I) → n + D.length = I.length → G D w → wpAnyH P .any l.toArray Q S (fuel + n) (setAll base D) a w
  | 0, D, w, hD, hs, hn, h => by
    have p : D.Perm I := by
      obtain ⟨r, hr⟩ := perm_part D I hD hs
      have hl := hr.length_eq
      rw [List.length_append] at hl
      obtain rfl : r = [] := List.eq_nil_of_length_eq_zero (by omega)
      rw [List.append_nil] at hr
      exact hr.symm
    rw [setAll_perm p]
    exact next D w p h
  | n + 1, D, w, hD, hs, hn, h => by
    have hne : ∃ i ∈ I, i ∉ D := by
      refine Classical.byContradiction fun hc => ?_
      have hsub : ∀ i ∈ I, i ∈ D := fun i hi => Classical.byContradiction fun h' => hc ⟨i, hi, h'⟩
      obtain ⟨r, hr⟩ := perm_part I D hnd hsub
      have hl := hr.length_eq
      rw [List.length_append] at hl
      omega
    obtain ⟨h1, h2⟩ := gate_ready hg hs hne
    refine ⟨fun h0 => absurd h0 h2, fun i hi => ?_⟩
    obtain ⟨hiI, hiD⟩ := h1 i hi
    obtain ⟨o, ho, _⟩ := (mem_ready.1 hi).2
    have ho' : l[i]? = some o := by rw [List.getElem?_toArray] at ho; exact ho
    have h3 := hstep i hiI D w hD hs hiD h
    rw [nth_eq, ho'] at h3
    refine wpOp_mono (fun a2 w2 hk => ?_) (wpOp_of_then ho h3)
    obtain ⟨rfl, hk⟩ := hk
    refine ⟨hG _ _ hk, ?_⟩
    exact mix_set hnd hg hG hstep next n (i :: D) w2 (List.nodup_cons.2 ⟨hiD, hD⟩) (fun j hj => by
      rcases List.mem_cons.1 hj with rfl | hj
      · exact hiI
      · exact hs j hj) (by simp only [List.length_cons]; omega) hk

theorem mix_all (hs : Region.noSelect l.toArray = true) (hQ : ∀ c a d v w, Q (.panic c) (Act.put a (some d) v) w → Q (.panic c) a w) (last : List Nat) :
    ∀ (sc : Sched) (S F : World → Prop) (listed : Array Bool) (a : Act) (w : World), schedB l.toArray last sc listed = true → (∀ w, F w → S w) → F w →
      wpSeg P l.toArray Q (nths l last) S F (segs l sc) a → wpAnyH P .any l.toArray Q S (sc.size last) listed a w
  | [], S, F, listed, a, w, hb, hF, hw, h => by
    unfold schedB at hb
    rw [Bool.and_eq_true] at hb
    have := mix_reads hs hQ (hF _ hw) last 0 listed a hb.1 h (fun a' ha' => ⟨by simpa using hb.2, ha' w hw⟩)
    rwa [Nat.zero_add] at this
  | (rs, [i]) :: r, S, F, listed, a, w, hb, hF, hw, h => by
    unfold schedB at hb
    simp only [Bool.and_eq_true] at hb
    obtain ⟨⟨⟨h1, h2⟩, h3⟩, h4⟩ := hb
    cases ho : l[i]? with
    | none => rw [List.getElem?_toArray, ho] at h2; cases h2
    | some o =>
      have hi : l.toArray[i]? = some o := by rw [List.getElem?_toArray]; exact ho
      have hrd : Region.ready .any l.toArray (readsB l.toArray rs listed).2 = [i] := by
        split at h3
        · rename_i j hj; rw [hj, beq_iff_eq.1 h3]
        · cases h3
      rw [show segs l ((rs, [i]) :: r) = (nths l rs, [i], [nth l i]) :: segs l r from rfl] at h
      unfold wpSeg at h
      rw [nth_eq, ho] at h
      have := mix_reads hs hQ (hF _ hw) rs (Sched.size last r + 1) listed a h1 h (fun a' ha' => by
        refine wpAnyH_all hrd (by simp) fun j hj => ?_
        obtain rfl : j = i := by simpa using hj
        refine wpOp_mono (fun a2 w2 hk => ?_) (wpOp_of_then hi (ha' w hw))
        obtain ⟨S', F', k1, k2, k3, k4⟩ := hk
        exact ⟨k1 _ (k2 _ k3), wpAnyH_weaken k1 _ _ _ _ (mix_all hs hQ last r S' F' _ a2 w2 h4 k2 k3 k4)⟩)
      rw [show Sched.size last ((rs, [i]) :: r) = Sched.size last r + 1 + rs.length from by rw [show Sched.size last ((rs, [i]) :: r) = rs.length + 1 + Sched.size last r from rfl]; omega]
      exact this
  | (rs, []) :: r, S, F, listed, a, w, hb, hF, hw, h => by
    unfold schedB at hb
    simp only [Bool.and_eq_true] at hb
    obtain ⟨⟨⟨h1, h2⟩, h3⟩, h4⟩ := hb
    rw [show segs l ((rs, []) :: r) = (nths l rs, [], []) :: segs l r from rfl] at h
    unfold wpSeg at h
    have := mix_reads hs hQ (hF _ hw) rs (Sched.size last r) listed a h1 h (fun a' ha' => by
      obtain ⟨G, S', F', k1, k2, k3, k4, k5, k6, k7⟩ := ha'
      exact wpAnyH_weaken k3 _ _ _ _ (mix_all hs hQ last r S' F' _ a' w h4 k4 (k5 [] w (List.Perm.refl _) (k1 w hw)) k7))
    rw [show Sched.size last ((rs, []) :: r) = Sched.size last r + rs.length from by rw [show Sched.size last ((rs, []) :: r) = rs.length + 0 + Sched.size last r from rfl]; omega]
    exact this
  | (rs, i :: i2 :: I) :: r, S, F, listed, a, w, hb, hF, hw, h => by
    unfold schedB at hb
    simp only [Bool.and_eq_true] at hb
    obtain ⟨⟨⟨h1, h2⟩, h3⟩, h4⟩ := hb
    rw [show segs l ((rs, i :: i2 :: I) :: r) = (nths l rs, i :: i2 :: I, nth l i :: nth l i2 :: I.map (nth l)) :: segs l r from rfl] at h
    unfold wpSeg at h
    have := mix_reads hs hQ (hF _ hw) rs (Sched.size last r + (i :: i2 :: I).length) listed a h1 h (fun a' ha' => by
      obtain ⟨G, S', F', k1, k2, k3, k4, k5, k6, k7⟩ := ha'
      refine mix_set (nodupB_nodup h3) h2 k2 k6 (fun D w hp hG => ?_) _ [] w List.nodup_nil (by simp) (by simp) (k1 w hw)
      exact wpAnyH_weaken k3 _ _ _ _ (mix_all hs hQ last r S' F' _ a' w h4 k4 (k5 D w hp hG) k7))
    rw [show Sched.size last ((rs, i :: i2 :: I) :: r) = Sched.size last r + (i :: i2 :: I).length + rs.length from by rw [show Sched.size last ((rs, i :: i2 :: I) :: r) = rs.length + (i :: i2 :: I).length + Sched.size last r from rfl]; omega]
    exact this
/-- The region, walked once. -/
theorem region_mix {W w : World} {Hs H : List HProp} {id : Nat} {a : Act} (sc : Sched) (last : List Nat) (hs : sat W H w) (hHs : ∀ w, sat W H w → sat W Hs w) (hm : P.follows .mixedOrders = true)
    (hb : (Region.noSelect l.toArray && schedB l.toArray last sc (Array.replicate l.length false) && (sc.size last == l.length)) = true)
    (hQ : ∀ c a d v w, Q (.panic c) (Act.put a (some d) v) w → Q (.panic c) a w)
    (h : wpSeg P l.toArray Q (nths l last) (sat W Hs) (sat W H) (segs l sc) a) : (Code.region id l.toArray true).wp P Q a w := by
  simp only [Bool.and_eq_true, beq_iff_eq] at hb
  obtain ⟨⟨h1, h2⟩, h3⟩ := hb
  refine wp_region_held (S := sat W Hs) hm ?_
  have := mix_all h1 hQ last sc _ _ _ a w.drew h2 hHs hs.drew h
  rw [h3] at this
  exact this
/-- Where there is no world, whatever is read is read. -/
theorem wpQuiet_empty {P : Program} {ops : Array Oper} {S : World → Prop} {K : Act → Prop} (hS : ∀ w, ¬ S w) (hK : ∀ a, K a) : ∀ (l : List Oper) (a : Act), wpQuiet P ops S K l a
  | [], a => hK a
  | o :: r, a => by
    unfold wpQuiet
    split
    · exact ⟨undef, fun w h => (hS w h).elim, wpQuiet_empty hS hK r _⟩
    · exact wpQuiet_empty hS hK r _
/-- Reads. -/
theorem seg_reads {W : World} {Hs H : List HProp} {last : List Oper} {I : List Nat} {rs o : List Oper} {r : List (List Oper × List Nat × List (List Oper))} {a : Act} {ops : Array Oper} (hHs : ∀ w, sat W H w → sat W Hs w)
    (h : ∀ (X : Type) (f : X → World), Nonempty X → (∀ x, sat W Hs (f x)) → (∀ w', sat W Hs w' → ∃ x, w' = f x) → wpQuiet P ops (fun w' => ∃ x : X, w' = f x)
      (fun a' => ∀ w, sat W H w → wpList P ops (Exit.then (fun a2 w2 => ∃ S' F' : World → Prop, (∀ w, S' w → sat W Hs w) ∧ (∀ w, F' w → S' w) ∧ F' w2 ∧ wpSeg P ops Q last S' F' r a2) Q) o a' w) rs a) :
    wpSeg P ops Q last (sat W Hs) (sat W H) ((rs, I, [o]) :: r) a := by
  by_cases hne : ∃ w, sat W Hs w
  case neg =>
    unfold wpSeg
    exact wpQuiet_empty (fun w hw => hne ⟨w, hw⟩) (fun a' => fun w hw => (hne ⟨w, hHs _ hw⟩).elim) _ _
  obtain ⟨w, hw⟩ := hne
  have h' := h {w' : World // sat W Hs w'} (fun x => x.1) ⟨⟨w, hw⟩⟩ (fun x => x.2) (fun w' hw => ⟨⟨w', hw⟩, rfl⟩)
  have e : (fun w' => ∃ x : {w' : World // sat W Hs w'}, w' = x.1) = fun w' => sat W Hs w' := by
    funext w'
    exact propext ⟨fun ⟨x, hx⟩ => hx ▸ x.2, fun hx => ⟨⟨w', hx⟩, rfl⟩⟩
  rw [e] at h'
  unfold wpSeg
  exact h'
/-- Reads, and then a set of operations that come in any order. -/
theorem seg_set {W : World} {Hs H : List HProp} {last : List Oper} {I : List Nat} {rs o1 o2 : List Oper} {os : List (List Oper)} {r : List (List Oper × List Nat × List (List Oper))} {a : Act} {ops : Array Oper} (hne : ∃ w, sat W H w) (hHs : ∀ w, sat W H w → sat W Hs w)
    (h : ∀ (X : Type) (f : X → World), Nonempty X → (∀ x, sat W Hs (f x)) → (∀ w', sat W Hs w' → ∃ x, w' = f x) → wpQuiet P ops (fun w' => ∃ x : X, w' = f x)
      (fun a' => ∃ (G : List Nat → World → Prop) (S' F' : World → Prop), (∀ w, sat W H w → G [] w) ∧ (∀ D w, G D w → sat W Hs w) ∧ (∀ w, S' w → sat W Hs w) ∧ (∀ w, F' w → S' w) ∧ (∀ D w, D.Perm I → G D w → F' w) ∧
      (∀ i ∈ I, ∀ D w, D.Nodup → (∀ j ∈ D, j ∈ I) → i ∉ D → G D w → wpList P ops (Exit.then (fun a2 w2 => a2 = a' ∧ G (i :: D) w2) Q) (nth ops.toList i) a' w) ∧ wpSeg P ops Q last S' F' r a') rs a) :
    wpSeg P ops Q last (sat W Hs) (sat W H) ((rs, I, o1 :: o2 :: os) :: r) a := by
  obtain ⟨w, hw⟩ := hne
  have h' := h {w' : World // sat W Hs w'} (fun x => x.1) ⟨⟨w, hHs _ hw⟩⟩ (fun x => x.2) (fun w' hw => ⟨⟨w', hw⟩, rfl⟩)
  have e : (fun w' => ∃ x : {w' : World // sat W Hs w'}, w' = x.1) = fun w' => sat W Hs w' := by
    funext w'
    exact propext ⟨fun ⟨x, hx⟩ => hx ▸ x.2, fun hx => ⟨⟨w', hx⟩, rfl⟩⟩
  rw [e] at h'
  unfold wpSeg
  exact h'
theorem seg_last {W : World} {Hs H : List HProp} {last : List Oper} {a : Act} {ops : Array Oper} (hHs : ∀ w, sat W H w → sat W Hs w)
    (h : ∀ (X : Type) (f : X → World), Nonempty X → (∀ x, sat W Hs (f x)) → (∀ w', sat W Hs w' → ∃ x, w' = f x) → wpQuiet P ops (fun w' => ∃ x : X, w' = f x)
      (fun a' => ∀ w, sat W H w → Q .normal a' w) last a) :
    wpSeg P ops Q last (sat W Hs) (sat W H) [] a := by
  by_cases hne : ∃ w, sat W Hs w
  case neg =>
    unfold wpSeg
    exact wpQuiet_empty (fun w hw => hne ⟨w, hw⟩) (fun a' => fun w hw => (hne ⟨w, hHs _ hw⟩).elim) _ _
  obtain ⟨w, hw⟩ := hne
  have h' := h {w' : World // sat W Hs w'} (fun x => x.1) ⟨⟨w, hw⟩⟩ (fun x => x.2) (fun w' hw => ⟨⟨w', hw⟩, rfl⟩)
  have e : (fun w' => ∃ x : {w' : World // sat W Hs w'}, w' = x.1) = fun w' => sat W Hs w' := by
    funext w'
    exact propext ⟨fun ⟨x, hx⟩ => hx ▸ x.2, fun hx => ⟨⟨w', hx⟩, rfl⟩⟩
  rw [e] at h'
  unfold wpSeg
  exact h'
/-- On, behind an operation that does more. -/
theorem seg_on {W w : World} {Hs Hs' H' : List HProp} {last : List Oper} {r : List (List Oper × List Nat × List (List Oper))} {a : Act} {ops : Array Oper} (hs : sat W H' w) (h1 : ∀ w, sat W Hs' w → sat W Hs w) (h2 : ∀ w, sat W H' w → sat W Hs' w)
    (h : sat W H' w → wpSeg P ops Q last (sat W Hs') (sat W H') r a) : ∃ S' F' : World → Prop, (∀ w, S' w → sat W Hs w) ∧ (∀ w, F' w → S' w) ∧ F' w ∧ wpSeg P ops Q last S' F' r a :=
  ⟨_, _, h1, h2, hs, h hs⟩
end

/-! ## Parts in another order, some left out -/
inductive Sub : List HProp → List HProp → Prop
  | refl (H : List HProp) : Sub H H
  | nil (H : List HProp) : Sub [] H
  | cons {L H : List HProp} {A : HProp} : Sub L H → Sub (A :: L) (A :: H)
  | skip {L H : List HProp} {B : HProp} : Sub L H → Sub L (B :: H)
  | perm {L H H' : List HProp} : H'.Perm H → Sub L H → Sub L H'
theorem sat_from {W w : World} {L H : List HProp} (h : Sub L H) (hs : sat W H w) : sat W L w := by
  refine ⟨hs.1, hs.2.1, hs.2.2.1, ?_⟩
  have key : ∀ h, holds H h → holds L h := by
    clear hs
    induction h with
    | refl => exact fun _ h => h
    | nil => exact fun _ _ => trivial
    | cons _ ih => exact fun _ h => holds_tail ih h
    | skip _ ih => exact fun _ h => ih _ (holds_drop h)
    | perm p _ ih => exact fun _ h => ih _ (holds_perm p h)
  exact key _ hs.2.2.2
section
variable {L H : List HProp} {A B0 B1 B2 B3 B4 B5 B6 B7 B8 : HProp}
theorem Sub.c0 (h : Sub L H) : Sub (A :: L) (A :: H) := .cons h
theorem Sub.c1 (h : Sub L (B0 :: H)) : Sub (A :: L) (B0 :: A :: H) := .perm (List.perm_middle (l₁ := [B0])) (.cons h)
theorem Sub.c2 (h : Sub L (B0 :: B1 :: H)) : Sub (A :: L) (B0 :: B1 :: A :: H) := .perm (List.perm_middle (l₁ := [B0, B1])) (.cons h)
theorem Sub.c3 (h : Sub L (B0 :: B1 :: B2 :: H)) : Sub (A :: L) (B0 :: B1 :: B2 :: A :: H) := .perm (List.perm_middle (l₁ := [B0, B1, B2])) (.cons h)
theorem Sub.c4 (h : Sub L (B0 :: B1 :: B2 :: B3 :: H)) : Sub (A :: L) (B0 :: B1 :: B2 :: B3 :: A :: H) := .perm (List.perm_middle (l₁ := [B0, B1, B2, B3])) (.cons h)
theorem Sub.c5 (h : Sub L (B0 :: B1 :: B2 :: B3 :: B4 :: H)) : Sub (A :: L) (B0 :: B1 :: B2 :: B3 :: B4 :: A :: H) := .perm (List.perm_middle (l₁ := [B0, B1, B2, B3, B4])) (.cons h)
theorem Sub.c6 (h : Sub L (B0 :: B1 :: B2 :: B3 :: B4 :: B5 :: H)) : Sub (A :: L) (B0 :: B1 :: B2 :: B3 :: B4 :: B5 :: A :: H) := .perm (List.perm_middle (l₁ := [B0, B1, B2, B3, B4, B5])) (.cons h)
theorem Sub.c7 (h : Sub L (B0 :: B1 :: B2 :: B3 :: B4 :: B5 :: B6 :: H)) : Sub (A :: L) (B0 :: B1 :: B2 :: B3 :: B4 :: B5 :: B6 :: A :: H) := .perm (List.perm_middle (l₁ := [B0, B1, B2, B3, B4, B5, B6])) (.cons h)
theorem Sub.c8 (h : Sub L (B0 :: B1 :: B2 :: B3 :: B4 :: B5 :: B6 :: B7 :: H)) : Sub (A :: L) (B0 :: B1 :: B2 :: B3 :: B4 :: B5 :: B6 :: B7 :: A :: H) := .perm (List.perm_middle (l₁ := [B0, B1, B2, B3, B4, B5, B6, B7])) (.cons h)
theorem Sub.c9 (h : Sub L (B0 :: B1 :: B2 :: B3 :: B4 :: B5 :: B6 :: B7 :: B8 :: H)) : Sub (A :: L) (B0 :: B1 :: B2 :: B3 :: B4 :: B5 :: B6 :: B7 :: B8 :: A :: H) := .perm (List.perm_middle (l₁ := [B0, B1, B2, B3, B4, B5, B6, B7, B8])) (.cons h)
end
/-! The same, as rules that 'constructor' tries one behind the other (Sb: parts may be left out; Sm_: none is) -/
inductive Sb : List HProp → List HProp → Prop
  | refl (H : List HProp) : Sb H H
  | nil (H : List HProp) : Sb [] H
  | c0 {L H : List HProp} {A : HProp} : Sb L (H) → Sb (A :: L) (A :: H)
  | c1 {L H : List HProp} {A : HProp} {B0 : HProp} : Sb L (B0 :: H) → Sb (A :: L) (B0 :: A :: H)
  | c2 {L H : List HProp} {A : HProp} {B0 B1 : HProp} : Sb L (B0 :: B1 :: H) → Sb (A :: L) (B0 :: B1 :: A :: H)
  | c3 {L H : List HProp} {A : HProp} {B0 B1 B2 : HProp} : Sb L (B0 :: B1 :: B2 :: H) → Sb (A :: L) (B0 :: B1 :: B2 :: A :: H)
  | c4 {L H : List HProp} {A : HProp} {B0 B1 B2 B3 : HProp} : Sb L (B0 :: B1 :: B2 :: B3 :: H) → Sb (A :: L) (B0 :: B1 :: B2 :: B3 :: A :: H)
  | c5 {L H : List HProp} {A : HProp} {B0 B1 B2 B3 B4 : HProp} : Sb L (B0 :: B1 :: B2 :: B3 :: B4 :: H) → Sb (A :: L) (B0 :: B1 :: B2 :: B3 :: B4 :: A :: H)
  | c6 {L H : List HProp} {A : HProp} {B0 B1 B2 B3 B4 B5 : HProp} : Sb L (B0 :: B1 :: B2 :: B3 :: B4 :: B5 :: H) → Sb (A :: L) (B0 :: B1 :: B2 :: B3 :: B4 :: B5 :: A :: H)
  | c7 {L H : List HProp} {A : HProp} {B0 B1 B2 B3 B4 B5 B6 : HProp} : Sb L (B0 :: B1 :: B2 :: B3 :: B4 :: B5 :: B6 :: H) → Sb (A :: L) (B0 :: B1 :: B2 :: B3 :: B4 :: B5 :: B6 :: A :: H)
  | c8 {L H : List HProp} {A : HProp} {B0 B1 B2 B3 B4 B5 B6 B7 : HProp} : Sb L (B0 :: B1 :: B2 :: B3 :: B4 :: B5 :: B6 :: B7 :: H) → Sb (A :: L) (B0 :: B1 :: B2 :: B3 :: B4 :: B5 :: B6 :: B7 :: A :: H)
  | c9 {L H : List HProp} {A : HProp} {B0 B1 B2 B3 B4 B5 B6 B7 B8 : HProp} : Sb L (B0 :: B1 :: B2 :: B3 :: B4 :: B5 :: B6 :: B7 :: B8 :: H) → Sb (A :: L) (B0 :: B1 :: B2 :: B3 :: B4 :: B5 :: B6 :: B7 :: B8 :: A :: H)
  | skip {L H : List HProp} {B : HProp} : Sb L H → Sb L (B :: H)
theorem Sb.sub {L H : List HProp} (h : Sb L H) : Sub L H := by
  induction h with
  | refl H => exact .refl _
  | nil H => exact .nil _
  | c0 _ ih => exact .c0 ih
  | c1 _ ih => exact .c1 ih
  | c2 _ ih => exact .c2 ih
  | c3 _ ih => exact .c3 ih
  | c4 _ ih => exact .c4 ih
  | c5 _ ih => exact .c5 ih
  | c6 _ ih => exact .c6 ih
  | c7 _ ih => exact .c7 ih
  | c8 _ ih => exact .c8 ih
  | c9 _ ih => exact .c9 ih
  | skip _ ih => exact .skip ih
theorem sb_from {W w : World} {L H : List HProp} (h : Sb L H) (hs : sat W H w) : sat W L w := sat_from h.sub hs
inductive Sk : List HProp → List HProp → Prop
  | refl (H : List HProp) : Sk H H
  | c0 {L H : List HProp} {A : HProp} : Sk L (H) → Sk (A :: L) (A :: H)
  | c1 {L H : List HProp} {A : HProp} {B0 : HProp} : Sk L (B0 :: H) → Sk (A :: L) (B0 :: A :: H)
  | c2 {L H : List HProp} {A : HProp} {B0 B1 : HProp} : Sk L (B0 :: B1 :: H) → Sk (A :: L) (B0 :: B1 :: A :: H)
  | c3 {L H : List HProp} {A : HProp} {B0 B1 B2 : HProp} : Sk L (B0 :: B1 :: B2 :: H) → Sk (A :: L) (B0 :: B1 :: B2 :: A :: H)
  | c4 {L H : List HProp} {A : HProp} {B0 B1 B2 B3 : HProp} : Sk L (B0 :: B1 :: B2 :: B3 :: H) → Sk (A :: L) (B0 :: B1 :: B2 :: B3 :: A :: H)
  | c5 {L H : List HProp} {A : HProp} {B0 B1 B2 B3 B4 : HProp} : Sk L (B0 :: B1 :: B2 :: B3 :: B4 :: H) → Sk (A :: L) (B0 :: B1 :: B2 :: B3 :: B4 :: A :: H)
  | c6 {L H : List HProp} {A : HProp} {B0 B1 B2 B3 B4 B5 : HProp} : Sk L (B0 :: B1 :: B2 :: B3 :: B4 :: B5 :: H) → Sk (A :: L) (B0 :: B1 :: B2 :: B3 :: B4 :: B5 :: A :: H)
  | c7 {L H : List HProp} {A : HProp} {B0 B1 B2 B3 B4 B5 B6 : HProp} : Sk L (B0 :: B1 :: B2 :: B3 :: B4 :: B5 :: B6 :: H) → Sk (A :: L) (B0 :: B1 :: B2 :: B3 :: B4 :: B5 :: B6 :: A :: H)
  | c8 {L H : List HProp} {A : HProp} {B0 B1 B2 B3 B4 B5 B6 B7 : HProp} : Sk L (B0 :: B1 :: B2 :: B3 :: B4 :: B5 :: B6 :: B7 :: H) → Sk (A :: L) (B0 :: B1 :: B2 :: B3 :: B4 :: B5 :: B6 :: B7 :: A :: H)
  | c9 {L H : List HProp} {A : HProp} {B0 B1 B2 B3 B4 B5 B6 B7 B8 : HProp} : Sk L (B0 :: B1 :: B2 :: B3 :: B4 :: B5 :: B6 :: B7 :: B8 :: H) → Sk (A :: L) (B0 :: B1 :: B2 :: B3 :: B4 :: B5 :: B6 :: B7 :: B8 :: A :: H)
theorem Sk.sub {L H : List HProp} (h : Sk L H) : Sub L H := by
  induction h with
  | refl H => exact .refl _
  | c0 _ ih => exact .c0 ih
  | c1 _ ih => exact .c1 ih
  | c2 _ ih => exact .c2 ih
  | c3 _ ih => exact .c3 ih
  | c4 _ ih => exact .c4 ih
  | c5 _ ih => exact .c5 ih
  | c6 _ ih => exact .c6 ih
  | c7 _ ih => exact .c7 ih
  | c8 _ ih => exact .c8 ih
  | c9 _ ih => exact .c9 ih
theorem sk_from {W w : World} {L H : List HProp} (h : Sk L H) (hs : sat W H w) : sat W L w := sat_from h.sub hs
end Go.Mem
