/-
  A region that draws its order: reads, and operations that do more, one at a time; walked once.
-/
import Derived.Test.YtaajgkccannjlaaSat
import Derived.OrdersHeld
namespace Go.Mem
open Go.RowKit

/-- An operation that yields a value and no call. -/
def isRead (o : Oper) : Bool :=
  match o.op with
  | .move _ | .assign _ | .pick _ _ _ | .load _ _ | .binOp _ _ _ _ _ | .unOp _ _ _ | .convert _ _ _ | .slice _ _ _ _ _ | .fieldAddr _ _ _ | .field _ _ _
  | .indexAddr _ _ _ | .index _ _ _ | .lookup _ _ _ _ | .extract _ _ | .build _ _ | .makeInterface _ _ | .typeAssert _ _ _ _ => true
  | .call c => (match c.callee with | .builtin .len | .builtin .cap | .builtin .min | .builtin .max => true | _ => false)
  | _ => false

theorem ok_value {P : Program} {s : Sem Value} {w w' : World} {n : Next} (h : (do pure (Next.value (← s)) : Sem Next).run P w = .ok n w') : ∃ v, n = .value v := by
  rw [Sem.run_bind] at h
  cases hs : s.run P w with
  | ok v w1 => rw [hs, Result.andThen_ok, Sem.run_pure] at h; cases h; exact ⟨v, rfl⟩
  | halt x w1 => rw [hs] at h; cases h
theorem ok_pure {P : Program} {v : Value} {w w' : World} {n : Next} (h : (pure (Next.value v) : Sem Next).run P w = .ok n w') : ∃ v, n = .value v := by
  rw [Sem.run_pure] at h; cases h; exact ⟨v, rfl⟩
theorem isRead_value {P : Program} {ρ : Operand → Value} {o : Oper} (h : isRead o = true) {w w' : World} {n : Next} (hr : (execOp ρ o).run P w = .ok n w') : ∃ v, n = .value v := by
  obtain ⟨dst, op, type, pos, after, guard⟩ := o
  cases op
  case call c =>
    obtain ⟨callee, args, at_⟩ := c
    cases callee
    case builtin b =>
      cases b <;> first
        | (simp [isRead] at h; done)
        | (simp only [execOp, resolve, Sem.run_bind, Sem.run_pure, Result.andThen_ok, invoke, builtin] at hr; exact ok_value (by rw [Sem.run_bind]; exact hr))
    all_goals exact absurd h (by simp [isRead])
  case pick c a b =>
    simp only [execOp, Sem.run_bind] at hr
    cases hs : (asBool (ρ c)).run P w with
    | ok v w1 => rw [hs, Result.andThen_ok, Sem.run_pure] at hr; cases hr; exact ⟨_, rfl⟩
    | halt x w1 => rw [hs] at hr; cases hr
  all_goals first
    | (simp [isRead] at h; done)
    | exact ok_pure hr
    | exact ok_value hr

/-- What is read first: a value in every world that meets S. -/
theorem yieldsIf_of_quiet {P : Program} {ops : Array Oper} {S : World → Prop} {o : Oper} {a : Act} {K : Act → Prop} (hr : isRead o = true) (h : if Region.wanted o (yielded ops a.tmps) then o.quiet P a S K else K (a.put o.dst undef)) :
    ∃ v, ((∃ w, S w) → YieldsIf P ops S o v a) ∧ K (a.put o.dst v) := by
  split at h
  · rename_i hw
    obtain ⟨v, h1, h2⟩ := h
    refine ⟨v, fun _ => .inl ⟨hw, fun w hS => ?_⟩, h2⟩
    have h3 := h1 w hS
    unfold Oper.quietAt at h3
    cases hx : (execOp a.eval o).run P w with
    | ok n w' =>
      obtain ⟨u, rfl⟩ := isRead_value hr hx
      rw [hx] at h3
      obtain ⟨e1, e2⟩ := h3
      rw [e1, e2]
    | halt x w' => rw [hx] at h3; exact h3.elim
  · rename_i hw
    exact ⟨undef, fun _ => .inr ⟨by simpa using hw, rfl⟩, h⟩

/-- The order of the walk: reads, then one operation that does more; and so on; reads. -/
abbrev Sched := List (List Nat × Nat)
def rdB (ops : Array Oper) (l : Array Bool) (i : Nat) : Bool := (match ops[i]? with | some o => isRead o | none => false) && Region.free .any ops l i && (Region.ready .any ops l).contains i
def readsB (ops : Array Oper) : List Nat → Array Bool → Bool × Array Bool
  | [], l => (true, l)
  | i :: r, l => if rdB ops l i = true then readsB ops r (l.setIfInBounds i true) else (false, l)
def schedB (ops : Array Oper) (last : List Nat) : Sched → Array Bool → Bool
  | [], l => (readsB ops last l).1 && (Region.ready .any ops (readsB ops last l).2).isEmpty
  | (rs, i) :: r, l => (readsB ops rs l).1 && (match ops[i]? with | some _ => true | none => false) && (match Region.ready .any ops (readsB ops rs l).2 with | [j] => j == i | _ => false) && schedB ops last r ((readsB ops rs l).2.setIfInBounds i true)

def nth : List Oper → Nat → List Oper
  | [], _ => []
  | o :: _, 0 => [o]
  | _ :: r, n + 1 => nth r n
theorem nth_eq : ∀ (l : List Oper) (i : Nat), nth l i = (match l[i]? with | some o => [o] | none => [])
  | [], _ => rfl
  | _ :: _, 0 => rfl
  | _ :: r, n + 1 => by unfold nth; rw [nth_eq r n]; rfl
def nths (l : List Oper) : List Nat → List Oper
  | [] => []
  | i :: r => nth l i ++ nths l r

/-- Behind an operation that does more. -/
def wpSeg (P : Program) (ops : Array Oper) (Q : Exit → Act → World → Prop) (last : List Oper) : (S F : World → Prop) → List (List Oper × List Oper) → Act → Prop
  | S, F, [], a => wpQuiet P ops S (fun a' => ∀ w, F w → Q .normal a' w) last a
  | S, F, (rs, o) :: r, a => wpQuiet P ops S (fun a' => ∀ w, F w → wpList P ops (Exit.then (fun a2 w2 => ∃ S' F' : World → Prop, (∀ w, S' w → S w) ∧ (∀ w, F' w → S' w) ∧ F' w2 ∧ wpSeg P ops Q last S' F' r a2) Q) o a' w) rs a
def segs (l : List Oper) : Sched → List (List Oper × List Oper)
  | [] => []
  | (rs, i) :: r => (nths l rs, nth l i) :: segs l r

theorem letsOut_then {Q : Exit → Act → World → Prop} {K : Act → World → Prop} (h : LetsOut (Exit.then K Q)) : LetsOut Q := h
theorem wpOp_of_then {P : Program} {ops : Array Oper} {Q : Exit → Act → World → Prop} {K : Act → World → Prop} {i : Nat} {o : Oper} {a : Act} {w : World} (hi : ops[i]? = some o) (h : wpList P ops (Exit.then K Q) [o] a w) : wpOp P ops Q i K a w := by
  unfold wpOp
  rw [hi]
  unfold wpList at h
  simp only
  split at h
  · rename_i hw
    rw [if_pos hw]
    rcases h with h | ⟨h1, h2⟩
    · left
      unfold Oper.wp at *
      generalize (execOp a.eval o).run P w = r at *
      cases r with
      | ok n w' =>
        cases n <;> simp only [Oper.upon] at h ⊢
        case value u => exact h
        case skip => exact h
        case defer d => exact h
        case enter f args => exact Calls.mono h fun e w'' he => by cases e <;> exact he
        case row row args => exact Rows.mono h fun u w'' he => he
      | halt x w' => cases x <;> simp only [Oper.upon] at h ⊢; exact h
    · exact .inr ⟨h1, letsOut_then h2⟩
  · rename_i hw
    rw [if_neg hw]; exact h

section
variable {P : Program} {l : List Oper} {Q : Exit → Act → World → Prop}
theorem wpAnyH_weaken {ops : Array Oper} {md : Region.Mode} {S S' : World → Prop} (hS : ∀ w, S' w → S w) : ∀ (fuel : Nat) (listed : Array Bool) (a : Act) (w : World), wpAnyH P md ops Q S' fuel listed a w → wpAnyH P md ops Q S fuel listed a w
  | 0, _, _, _, h => h
  | fuel + 1, _, _, _, h => ⟨h.1, fun i hi => wpOp_mono (fun a' w' h' => ⟨hS _ h'.1, wpAnyH_weaken hS fuel _ a' w' h'.2⟩) (h.2 i hi)⟩

theorem mix_reads (hs : Region.noSelect l.toArray = true) (hQ : ∀ c a d v w, Q (.panic c) (Act.put a (some d) v) w → Q (.panic c) a w) {S : World → Prop} {w : World} (hw : S w) {K : Act → Prop} :
    ∀ (rs : List Nat) (fuel : Nat) (listed : Array Bool) (a : Act), (readsB l.toArray rs listed).1 = true → wpQuiet P l.toArray S K (nths l rs) a →
      (∀ a', K a' → wpAnyH P .any l.toArray Q S fuel (readsB l.toArray rs listed).2 a' w) → wpAnyH P .any l.toArray Q S (fuel + rs.length) listed a w
  | [], fuel, listed, a, _, h, next => next a h
  | i :: rs, fuel, listed, a, hb, h, next => by
    unfold readsB at hb next
    split at hb
    · rename_i hc
      rw [if_pos hc] at next
      unfold rdB at hc
      simp only [Bool.and_eq_true] at hc
      obtain ⟨⟨h1, h2⟩, h3⟩ := hc
      cases ho : l[i]? with
      | none => rw [List.getElem?_toArray, ho] at h1; cases h1
      | some o =>
        have hi : l.toArray[i]? = some o := by rw [List.getElem?_toArray]; exact ho
        rw [hi] at h1
        have e : nths l (i :: rs) = o :: nths l rs := by rw [show nths l (i :: rs) = nth l i ++ nths l rs from rfl, nth_eq, ho]; rfl
        rw [e] at h
        unfold wpQuiet at h
        obtain ⟨v, hy, hk⟩ := yieldsIf_of_quiet h1 h
        exact wpAnyH_take hi hs h2 h3 (fun c a w hq => by cases hd : o.dst with | none => rw [hd] at hq; exact hq | some d => rw [hd] at hq; exact hQ c a d _ w hq) (hy ⟨w, hw⟩) hw (mix_reads hs hQ hw rs fuel _ _ hb hk next)
    · cases hb

def Sched.size (last : List Nat) : Sched → Nat
  | [] => last.length
  | (rs, _) :: r => rs.length + 1 + Sched.size last r

theorem mix_all (hs : Region.noSelect l.toArray = true) (hQ : ∀ c a d v w, Q (.panic c) (Act.put a (some d) v) w → Q (.panic c) a w) (last : List Nat) :
    ∀ (sc : Sched) (S F : World → Prop) (listed : Array Bool) (a : Act) (w : World), schedB l.toArray last sc listed = true → (∀ w, F w → S w) → F w →
      wpSeg P l.toArray Q (nths l last) S F (segs l sc) a → wpAnyH P .any l.toArray Q S (sc.size last) listed a w
  | [], S, F, listed, a, w, hb, hF, hw, h => by
    unfold schedB at hb
    rw [Bool.and_eq_true] at hb
    have := mix_reads hs hQ (hF _ hw) last 0 listed a hb.1 h (fun a' ha' => ⟨by simpa using hb.2, ha' w hw⟩)
    rwa [Nat.zero_add] at this
  | (rs, i) :: r, S, F, listed, a, w, hb, hF, hw, h => by
    unfold schedB at hb
    simp only [Bool.and_eq_true] at hb
    obtain ⟨⟨⟨h1, h2⟩, h3⟩, h4⟩ := hb
    cases ho : l[i]? with
    | none => rw [List.getElem?_toArray, ho] at h2; cases h2
    | some o =>
      have hi : l.toArray[i]? = some o := by rw [List.getElem?_toArray]; exact ho
      have hrd : Region.ready .any l.toArray (readsB l.toArray rs listed).2 = [i] := by
        split at h3
        · rename_i j hj; rw [hj, beq_iff_eq.1 h3]
        · cases h3
      unfold segs wpSeg at h
      rw [nth_eq, ho] at h
      have := mix_reads hs hQ (hF _ hw) rs (Sched.size last r + 1) listed a h1 h (fun a' ha' => by
        refine wpAnyH_all hrd (by simp) fun j hj => ?_
        obtain rfl : j = i := by simpa using hj
        refine wpOp_mono (fun a2 w2 hk => ?_) (wpOp_of_then hi (ha' w hw))
        obtain ⟨S', F', k1, k2, k3, k4⟩ := hk
        exact ⟨k1 _ (k2 _ k3), wpAnyH_weaken k1 _ _ _ _ (mix_all hs hQ last r S' F' _ a2 w2 h4 k2 k3 k4)⟩)
      rw [show Sched.size last ((rs, i) :: r) = Sched.size last r + 1 + rs.length from by rw [show Sched.size last ((rs, i) :: r) = rs.length + 1 + Sched.size last r from rfl]; omega]
      exact this
/-- The region, walked once. -/
theorem region_mix {W w : World} {Hs H : List HProp} {id : Nat} {a : Act} (sc : Sched) (last : List Nat) (hs : sat W H w) (hHs : ∀ w, sat W H w → sat W Hs w) (hm : P.follows .mixedOrders = true)
    (hb : (Region.noSelect l.toArray && schedB l.toArray last sc (Array.replicate l.length false) && (sc.size last == l.length)) = true)
    (hQ : ∀ c a d v w, Q (.panic c) (Act.put a (some d) v) w → Q (.panic c) a w)
    (h : wpSeg P l.toArray Q (nths l last) (sat W Hs) (sat W H) (segs l sc) a) : (Code.region id l.toArray true).wp P Q a w := by
  simp only [Bool.and_eq_true, beq_iff_eq] at hb
  obtain ⟨⟨h1, h2⟩, h3⟩ := hb
  refine wp_region_held (S := sat W Hs) hm ?_
  have := mix_all h1 hQ last sc _ _ _ a w.drew h2 hHs hs.drew h
  rw [h3] at this
  exact this
/-- Reads. -/
theorem seg_reads {W : World} {Hs H : List HProp} {last : List Oper} {rs o : List Oper} {r : List (List Oper × List Oper)} {a : Act} {ops : Array Oper} (hne : ∃ w, sat W H w) (hHs : ∀ w, sat W H w → sat W Hs w)
    (h : ∀ (X : Type) (f : X → World), Nonempty X → (∀ x, sat W Hs (f x)) → (∀ w', sat W Hs w' → ∃ x, w' = f x) → wpQuiet P ops (fun w' => ∃ x : X, w' = f x)
      (fun a' => ∀ w, sat W H w → wpList P ops (Exit.then (fun a2 w2 => ∃ S' F' : World → Prop, (∀ w, S' w → sat W Hs w) ∧ (∀ w, F' w → S' w) ∧ F' w2 ∧ wpSeg P ops Q last S' F' r a2) Q) o a' w) rs a) :
    wpSeg P ops Q last (sat W Hs) (sat W H) ((rs, o) :: r) a := by
  obtain ⟨w, hw⟩ := hne
  have h' := h {w' : World // sat W Hs w'} (fun x => x.1) ⟨⟨w, hHs _ hw⟩⟩ (fun x => x.2) (fun w' hw => ⟨⟨w', hw⟩, rfl⟩)
  have e : (fun w' => ∃ x : {w' : World // sat W Hs w'}, w' = x.1) = fun w' => sat W Hs w' := by
    funext w'
    exact propext ⟨fun ⟨x, hx⟩ => hx ▸ x.2, fun hx => ⟨⟨w', hx⟩, rfl⟩⟩
  rw [e] at h'
  unfold wpSeg
  exact h'
theorem seg_last {W : World} {Hs H : List HProp} {last : List Oper} {a : Act} {ops : Array Oper} (hne : ∃ w, sat W H w) (hHs : ∀ w, sat W H w → sat W Hs w)
    (h : ∀ (X : Type) (f : X → World), Nonempty X → (∀ x, sat W Hs (f x)) → (∀ w', sat W Hs w' → ∃ x, w' = f x) → wpQuiet P ops (fun w' => ∃ x : X, w' = f x)
      (fun a' => ∀ w, sat W H w → Q .normal a' w) last a) :
    wpSeg P ops Q last (sat W Hs) (sat W H) [] a := by
  obtain ⟨w, hw⟩ := hne
  have h' := h {w' : World // sat W Hs w'} (fun x => x.1) ⟨⟨w, hHs _ hw⟩⟩ (fun x => x.2) (fun w' hw => ⟨⟨w', hw⟩, rfl⟩)
  have e : (fun w' => ∃ x : {w' : World // sat W Hs w'}, w' = x.1) = fun w' => sat W Hs w' := by
    funext w'
    exact propext ⟨fun ⟨x, hx⟩ => hx ▸ x.2, fun hx => ⟨⟨w', hx⟩, rfl⟩⟩
  rw [e] at h'
  unfold wpSeg
  exact h'
/-- On, behind an operation that does more. -/
theorem seg_on {W w : World} {Hs Hs' H' : List HProp} {last : List Oper} {r : List (List Oper × List Oper)} {a : Act} {ops : Array Oper} (hs : sat W H' w) (h1 : ∀ w, sat W Hs' w → sat W Hs w) (h2 : ∀ w, sat W H' w → sat W Hs' w)
    (h : sat W H' w → wpSeg P ops Q last (sat W Hs') (sat W H') r a) : ∃ S' F' : World → Prop, (∀ w, S' w → sat W Hs w) ∧ (∀ w, F' w → S' w) ∧ F' w ∧ wpSeg P ops Q last S' F' r a :=
  ⟨_, _, h1, h2, hs, h hs⟩
end

/-! ## Parts in another order, some left out -/
inductive Sub : List HProp → List HProp → Prop
  | refl (H : List HProp) : Sub H H
  | nil (H : List HProp) : Sub [] H
  | cons {L H : List HProp} {A : HProp} : Sub L H → Sub (A :: L) (A :: H)
  | skip {L H : List HProp} {B : HProp} : Sub L H → Sub L (B :: H)
  | perm {L H H' : List HProp} : H'.Perm H → Sub L H → Sub L H'
theorem sat_from {W w : World} {L H : List HProp} (h : Sub L H) (hs : sat W H w) : sat W L w := by
  refine ⟨hs.1, hs.2.1, hs.2.2.1, ?_⟩
  have key : ∀ h, holds H h → holds L h := by
    clear hs
    induction h with
    | refl => exact fun _ h => h
    | nil => exact fun _ _ => trivial
    | cons _ ih => exact fun _ h => holds_tail ih h
    | skip _ ih => exact fun _ h => ih _ (holds_drop h)
    | perm p _ ih => exact fun _ h => ih _ (holds_perm p h)
  exact key _ hs.2.2.2
section
variable {L H : List HProp} {A B0 B1 B2 B3 B4 B5 B6 B7 B8 : HProp}
theorem Sub.c0 (h : Sub L H) : Sub (A :: L) (A :: H) := .cons h
theorem Sub.c1 (h : Sub L (B0 :: H)) : Sub (A :: L) (B0 :: A :: H) := .perm (List.perm_middle (l₁ := [B0])) (.cons h)
theorem Sub.c2 (h : Sub L (B0 :: B1 :: H)) : Sub (A :: L) (B0 :: B1 :: A :: H) := .perm (List.perm_middle (l₁ := [B0, B1])) (.cons h)
theorem Sub.c3 (h : Sub L (B0 :: B1 :: B2 :: H)) : Sub (A :: L) (B0 :: B1 :: B2 :: A :: H) := .perm (List.perm_middle (l₁ := [B0, B1, B2])) (.cons h)
theorem Sub.c4 (h : Sub L (B0 :: B1 :: B2 :: B3 :: H)) : Sub (A :: L) (B0 :: B1 :: B2 :: B3 :: A :: H) := .perm (List.perm_middle (l₁ := [B0, B1, B2, B3])) (.cons h)
theorem Sub.c5 (h : Sub L (B0 :: B1 :: B2 :: B3 :: B4 :: H)) : Sub (A :: L) (B0 :: B1 :: B2 :: B3 :: B4 :: A :: H) := .perm (List.perm_middle (l₁ := [B0, B1, B2, B3, B4])) (.cons h)
theorem Sub.c6 (h : Sub L (B0 :: B1 :: B2 :: B3 :: B4 :: B5 :: H)) : Sub (A :: L) (B0 :: B1 :: B2 :: B3 :: B4 :: B5 :: A :: H) := .perm (List.perm_middle (l₁ := [B0, B1, B2, B3, B4, B5])) (.cons h)
theorem Sub.c7 (h : Sub L (B0 :: B1 :: B2 :: B3 :: B4 :: B5 :: B6 :: H)) : Sub (A :: L) (B0 :: B1 :: B2 :: B3 :: B4 :: B5 :: B6 :: A :: H) := .perm (List.perm_middle (l₁ := [B0, B1, B2, B3, B4, B5, B6])) (.cons h)
theorem Sub.c8 (h : Sub L (B0 :: B1 :: B2 :: B3 :: B4 :: B5 :: B6 :: B7 :: H)) : Sub (A :: L) (B0 :: B1 :: B2 :: B3 :: B4 :: B5 :: B6 :: B7 :: A :: H) := .perm (List.perm_middle (l₁ := [B0, B1, B2, B3, B4, B5, B6, B7])) (.cons h)
theorem Sub.c9 (h : Sub L (B0 :: B1 :: B2 :: B3 :: B4 :: B5 :: B6 :: B7 :: B8 :: H)) : Sub (A :: L) (B0 :: B1 :: B2 :: B3 :: B4 :: B5 :: B6 :: B7 :: B8 :: A :: H) := .perm (List.perm_middle (l₁ := [B0, B1, B2, B3, B4, B5, B6, B7, B8])) (.cons h)
end
end Go.Mem
