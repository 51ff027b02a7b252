/-
  A range over a function, in the small logic of memory: an iterator's contract, the law of its caller; the walk's laws in a round.
-/
import Derived.Test.YtdcagaaanbgcoaaSs
import Derived.Test.YtdcagaaanbgcoaaSr
import Derived.Test.YtdcagaaanbgcoaaSd
import Derived.RangeFuncNested
import Derived.RangeFuncCalls
import Derived.RangeFuncLeaves
import Derived.OwnWalkIn
import Derived.TacticsInMore
import Derived.LoopNIn
import Derived.LoopIn
namespace Go.Mem
open Go.RowKit
variable {W w : World} {H : List HProp}

theorem holds_sublist {L M : List HProp} (s : L.Sublist M) : ∀ {h : Hp}, holds M h → holds L h := by
  induction s with
  | slnil => exact fun hh => hh
  | cons _ _ ih => exact fun hh => ih (holds_drop hh)
  | cons_cons _ _ ih => exact fun hh => holds_tail (fun _ => ih) hh
theorem sat.sublist {L : List HProp} (hs : sat W H w) (s : L.Sublist H) : sat W L w := ⟨hs.1, hs.2.1, hs.2.2.1, holds_sublist s hs.2.2.2⟩
theorem sat.putObj {l : Nat} {o : Obj} (hs : sat W (blk l o :: H) w) (o' : Obj) : sat W (blk l o' :: H) (w.putObj l o') :=
  hs.turn rfl rfl rfl (World.putObj_heap_same hs.lt) fun _ _ hk => World.putObj_heap_other hk
theorem sat.front {L : List HProp} {A : HProp} (hs : sat W (L ++ A :: H) w) : sat W (A :: (L ++ H)) w := hs.perm List.perm_middle
theorem sat.back {L : List HProp} {A : HProp} (hs : sat W (A :: (L ++ H)) w) : sat W (L ++ A :: H) w := hs.perm List.perm_middle.symm

/-- What abides a draw, and a new block. -/
def Steady {β : Type} (J : β → World → Prop) : Prop := ∀ s w, J s w → (∀ n, J s (w.drewN n)) ∧ ∀ o, J s (w.alloc o)
/-- An iterator: whatever the round does that keeps what it reads, it hands over xs, one by one, till the round says no more. -/
def IterS {α : Type} (P : Program) (gf : Nat) (lb : Array Value) (encs : α → Array Value) (Hs : List HProp) (xs : List α) : Prop :=
  ∀ (l : Nat) (W0 : World) (J Jx : List α → World → Prop) (w : World), (∀ s w', J s w' → sat W0 Hs w') → Steady J → Steady Jx →
    (∀ pre x w1, J pre w1 → pre ++ [x] <+: xs → YieldAt Fence.wide 0 P l (encs x) w1 fun e w' => (e = .returned (.bool true) ∧ J (pre ++ [x]) w') ∨ (e = .returned (.bool false) ∧ Jx (pre ++ [x]) w')) →
    J [] w → CallsIn Fence.wide 0 P gf (#[.func (.yield l) #[] #[]] ++ lb) w fun e w' => (∃ v, e = .returned v) ∧ (J xs w' ∨ ∃ pre, pre <+: xs ∧ Jx pre w')

/-- How a round may end. -/
def roundEnd {α β γ : Type} (W : World) (parts : List α → β → List HProp) (φ : List α → β → Prop) (xparts : Code → List α → γ → List HProp) (xφ : Code → List α → γ → Prop) (G : List HProp) (xs : List α) : Exit → Act → World → Prop
  | .normal, _, w' => ∃ y, φ xs y ∧ sat W (parts xs y ++ G) w'
  | .ret, _, w' => ∃ z, xφ .ret xs z ∧ sat W (xparts .ret xs z ++ G) w'
  | .exit id, _, w' => ∃ z, xφ (.exit id) xs z ∧ sat W (xparts (.exit id) xs z ++ G) w'
  | _, _, _ => False

theorem wp_range {P : Program} {α β γ δ : Type} {g : Operand} {ps : Array Tmp} {assign body : Code} {Q : Exit → Act → World → Prop} {a : Act} {gf : Nat} {lb : Array Value} {encs : α → Array Value} {xs : List α} {Hs : List HProp}
    (hg : a.eval g = .func (.func gf) #[] lb) (eg : ∀ args w, (callFunc gf args).run P w = .ok (.enter gf args) w) (hit : IterS P gf lb encs Hs xs) (hps : ∀ x, (encs x).size = ps.size)
    (parts : List α → β → List HProp) (φ : List α → β → Prop) (xparts : Code → List α → γ → List HProp) (xφ : Code → List α → γ → Prop) (act : List α → α → δ → Act) (box : List α → α → δ → List HProp)
    (hHs : ∀ pre y h, holds (parts pre y ++ H) h → holds Hs h) (y0 : β) (h0 : φ [] y0) (hs : sat W (parts [] y0 ++ H) w)
    (hassign : ∀ l G pre x y w1 (K : Act → World → Prop), φ pre y → pre ++ [x] <+: xs → sat W (parts pre y ++ G) w1 → (∀ d w2, sat W (box pre x d ++ (parts pre y ++ G)) w2 → K (act pre x d) w2) →
      assign.wpIn (Fence.wide.inRound l) 0 P (Exit.then K (fun _ _ _ => False)) { tmps := (ps.zip (encs x)).foldl (fun t (p, v) => t.setIfInBounds p v) a.tmps, defers := [] } w1)
    (hbody : ∀ l G pre x y d w2, φ pre y → pre ++ [x] <+: xs → sat W (box pre x d ++ (parts pre y ++ G)) w2 → body.wpIn (Fence.wide.inRound l) 0 P (roundEnd W parts φ xparts xφ G (pre ++ [x])) (act pre x d) w2)
    (hdone : ∀ D y w', φ xs y → sat W (parts xs y ++ (blk D (.deferred (some [])) :: H)) w' → Q .normal { a with defers := { target := .collected D, args := #[] } :: a.defers } w')
    (hstop : ∀ D c pre z w', pre <+: xs → xφ c pre z → sat W (xparts c pre z ++ (blk D (.deferred (some [])) :: H)) w' → c.wp P Q { a with defers := { target := .collected D, args := #[] } :: a.defers } w') :
    (Code.rangeFunc g ps assign body).wp P Q a w := by
  refine (wpIn_wide (n := 0)).1 (wpIn_rangeFunc fun fn hfn => ?_)
  obtain ⟨rec, hrec⟩ : ∃ rec : LoopState → Option Code → Loop, rec = fun st pe => { state := st, pending := pe, fn, tmps := a.tmps, params := ps, assign, body, defers := w.heap.size } := ⟨_, rfl⟩
  have hs1 : sat W (blk (w.heap.size + 1) (.loop (rec .ready none)) :: blk w.heap.size (.deferred (some [])) :: (parts [] y0 ++ H)) ((w.alloc (.deferred (some []))).alloc (.loop (rec .ready none))) := by
    have h := (hs.alloc (.deferred (some []))).alloc (.loop (rec .ready none))
    rwa [World.size_alloc] at h
  -- the state between two rounds
  let J : List α → World → Prop := fun pre w' => ∃ y, φ pre y ∧ sat W (parts pre y ++ (blk (w.heap.size + 1) (.loop (rec .ready none)) :: blk w.heap.size (.deferred (some [])) :: H)) w'
  let Jx : List α → World → Prop := fun pre w' => ∃ c z, xφ c pre z ∧ sat W (xparts c pre z ++ (blk (w.heap.size + 1) (.loop (rec .done (some c))) :: blk w.heap.size (.deferred (some [])) :: H)) w'
  have e0 : (w.alloc (.deferred (some []))).alloc (.loop { state := .ready, pending := none, fn, tmps := a.tmps, params := ps, assign, body, defers := w.heap.size }) = (w.alloc (.deferred (some []))).alloc (.loop (rec .ready none)) := by rw [hrec]
  have hen := run_enterLoop_outer (P := P) (w := w) fn a.tmps ps assign body
  rw [e0] at hen
  clear e0
  generalize (w.alloc (.deferred (some []))).alloc (.loop (rec .ready none)) = W1 at hs1 hen
  have mid : ∀ {L : List HProp} {l : Nat} {o : Obj} {M : List HProp} {w' : World}, sat W (L ++ (blk l o :: M)) w' → w'.heap[l]? = some o := fun h => h.front.heap
  have turned : ∀ {L : List HProp} {l : Nat} {o : Obj} {M : List HProp} {w' : World} (o' : Obj), sat W (L ++ (blk l o :: M)) w' → sat W (L ++ (blk l o' :: M)) (w'.putObj l o') := fun o' h => (h.front.putObj o').back
  refine ⟨w.heap.size + 1, [{ target := .collected w.heap.size, args := #[] }], W1, { target := .fn (.func gf) lb, args := #[.func (.yield (w.heap.size + 1)) #[] #[]] }, W1, gf,
    #[.func (.yield (w.heap.size + 1)) #[] #[]] ++ lb, W1, hen, ?_, fun _ _ => trivial, ?_, (fun h => by simp [Fence.wide] at h), ?_⟩
  · simp only [resolve, hg]
    simp [go_sem]
  · simp [invoke, go_sem, eg]
  · refine (hit (w.heap.size + 1) W J Jx _ ?_ ?_ ?_ ?_ ⟨y0, h0, ?_⟩).mono ?_
    · rintro pre w' ⟨y, _, h⟩
      have h1 : sat W (parts pre y ++ H) w' := h.sublist (List.Sublist.append_left (by simp) _)
      exact ⟨h1.1, h1.2.1, h1.2.2.1, hHs _ _ _ h1.2.2.2⟩
    · rintro pre w' ⟨y, hy, h⟩
      exact ⟨fun n => ⟨y, hy, h.drewN n⟩, fun o => ⟨y, hy, h.more o⟩⟩
    · rintro pre w' ⟨c, z, hz, h⟩
      exact ⟨fun n => ⟨c, z, hz, h.drewN n⟩, fun o => ⟨c, z, hz, h.more o⟩⟩
    · rintro pre x w1 ⟨y, hy, h⟩ hpx
      have hyl := run_yield (P := P) (args := encs x) (mid h) (by rw [hrec]; exact hps x)
      rw [hrec] at hyl
      refine ⟨fn, _, assign, body, hyl, roundIn_of_wpIn hfn (hassign _ _ pre x y w1 _ hy hpx h fun d w2 h2 => ?_)⟩
      rw [← List.append_assoc] at h2
      refine ⟨_, run_beginRound (mid h2) (by rw [hrec]), ?_⟩
      have h3 := turned (.loop { rec .ready none with state := .busy }) h2
      rw [List.append_assoc] at h3
      refine wpIn_mono (hbody _ _ pre x y d _ hy hpx h3) ?_
      intro e a3 w3 hp
      cases e with
      | normal =>
        obtain ⟨y', hy', h4⟩ := hp
        exact ⟨_, _, run_endRound none (mid h4), .inl ⟨rfl, y', hy', by have := turned (.loop (rec .ready none)) h4; rw [hrec] at this ⊢; exact this⟩⟩
      | ret =>
        obtain ⟨z, hz, h4⟩ := hp
        exact ⟨_, _, run_endRound (some .ret) (mid h4), .inr ⟨rfl, .ret, z, hz, by have := turned (.loop (rec .done (some .ret))) h4; rw [hrec] at this ⊢; exact this⟩⟩
      | exit id =>
        obtain ⟨z, hz, h4⟩ := hp
        exact ⟨_, _, run_endRound (some (.exit id)) (mid h4), .inr ⟨rfl, .exit id, z, hz, by have := turned (.loop (rec .done (some (.exit id)))) h4; rw [hrec] at this ⊢; exact this⟩⟩
      | goto _ => exact hp.elim
      | panic _ => exact hp.elim
      | outgrown => exact hp.elim
    · exact hs1.perm (((List.Perm.cons _ List.perm_middle.symm)).trans List.perm_middle.symm)
    · rintro e w2 ⟨⟨v, rfl⟩, (⟨y, hy, h⟩ | ⟨pre, hpre, c, z, hz, h⟩)⟩
      · refine ⟨none, _, by have := run_endLoop (P := P) (mid h) (by rw [hrec]; simp); rw [hrec] at this; exact this, ?_⟩
        have h2 := (turned (.loop { rec .ready none with state := .exhausted }) h).front.drop
        rw [hrec] at h2
        exact hdone _ y _ hy h2
      · refine ⟨some c, _, by have := run_endLoop (P := P) (mid h) (by rw [hrec]; simp); rw [hrec] at this; exact this, ?_⟩
        have h2 := (turned (.loop { rec .done (some c) with state := .exhausted }) h).front.drop
        rw [hrec] at h2
        exact wpIn_wide.2 (hstop _ c pre z _ hpre hz h2)

/-! ## In a round all is carried out as everywhere, but for 'defer' -/
def noDefer (l : List Oper) : Bool := l.all fun o => match o.op with | .defer _ => false | _ => true
theorem not_defer {o : Oper} (h : (match o.op with | .defer _ => false | _ => true) = true) : ∀ c, o.op ≠ .defer c := fun c e => by rw [e] at h; cases h
theorem rows_in {P : Program} {r : Nat} {row : String} {args : Array Value} {R : Value → World → Prop} (h : Rows P row args w R) : RowsIn (Fence.wide.inRound r) 0 P row args w R :=
  fun c cs _ => let ⟨v, w', h1, h2⟩ := h c cs; ⟨v, w', h1, stepsIn_wide.2 h2⟩
section
variable {P : Program} {ops : Array Oper} {Q : Exit → Act → World → Prop} {a : Act}
theorem calls_in {r : Nat} {f : FuncId} {args : Array Value} {R : Ending → World → Prop} (h : Calls P f args w R) : CallsIn (Fence.wide.inRound r) 0 P f args w R := CallsIn.inRound r (callsIn_wide.2 h)
theorem op_in {o : Oper} {K : Act → World → Prop} {r : Nat} (hd : ∀ c, o.op ≠ .defer c) (h : o.wp P a w K Q) : o.wpIn (Fence.wide.inRound r) 0 P a w K Q := by
  refine ⟨fun _ _ => trivial, ?_⟩
  rw [Oper.semAt_eq _ _ _ hd]
  unfold Oper.wp at h
  generalize (execOp a.eval o).run P w = x at h ⊢
  cases x with
  | ok n w' =>
    cases n <;> simp only [Oper.upon, Oper.uponIn] at h ⊢ <;> first | exact h | exact h.elim | exact ⟨fun e => by simp [Fence.wide] at e, calls_in h⟩ | exact ⟨fun e => by simp [Fence.wide] at e, rows_in h⟩
  | halt s w' =>
    cases s <;> simp only [Oper.upon, Oper.uponIn] at h ⊢ <;> first | exact h | exact h.elim
theorem list_in {r : Nat} (hno : ¬ LetsOut Q) : ∀ (l : List Oper) (a : Act) (w : World), noDefer l = true → wpList P ops Q l a w → wpListIn (Fence.wide.inRound r) 0 P ops Q l a w
  | [], _, _, _, h => h
  | o :: l, a, w, hd, h => by
    simp only [noDefer, List.all_cons, Bool.and_eq_true] at hd
    unfold wpList at h
    unfold wpListIn
    split
    · rename_i hw
      rw [if_pos hw] at h
      rcases h with h | ⟨_, h⟩
      · refine op_in (not_defer hd.1) (Oper.wp_mono (fun a w h => list_in hno l a w hd.2 h) h)
      · exact (hno h).elim
    · rename_i hw
      rw [if_neg hw] at h
      exact ⟨fun _ _ => trivial, list_in hno l _ _ hd.2 h⟩
theorem opAt_in {r i : Nat} {K : Act → World → Prop} (hno : ¬ LetsOut Q) (hd : noDefer ops.toList = true) (h : wpOp P ops Q i K a w) : wpOpIn (Fence.wide.inRound r) 0 P ops Q i K a w := by
  unfold wpOp at h
  unfold wpOpIn
  split
  · rename_i e; rw [e] at h; exact h
  · rename_i o e
    rw [e] at h
    simp only at h
    split
    · rename_i hw
      rw [if_pos hw] at h
      rcases h with h | ⟨_, h⟩
      · refine op_in (not_defer ?_) h
        have hm : o ∈ ops.toList := by
          rw [← Array.getElem?_toList] at e
          exact List.mem_of_getElem? e
        exact List.all_eq_true.1 hd o hm
      · exact (hno h).elim
    · rename_i hw
      rw [if_neg hw] at h
      exact ⟨fun _ _ => trivial, h⟩
theorem any_in {r : Nat} {md : Region.Mode} (hno : ¬ LetsOut Q) (hd : noDefer ops.toList = true) : ∀ (fuel : Nat) (listed : Array Bool) (a : Act) (w : World), wpAny P md ops Q fuel listed a w → wpAnyIn (Fence.wide.inRound r) 0 P md ops Q fuel listed a w
  | 0, _, _, _, h => h
  | fuel + 1, _, _, _, h => ⟨h.1, fun i hi => wpOpIn_mono (fun a w h => any_in hno hd fuel _ a w h) (opAt_in hno hd (h.2 i hi))⟩
/-- A region in a round. -/
theorem region_in {r id : Nat} {l : List Oper} (hno : ¬ LetsOut Q) (hd : noDefer l = true) (h : wpList P l.toArray Q l a w) : (Code.region id l.toArray false).wpIn (Fence.wide.inRound r) 0 P Q a w :=
  wpIn_region_lit (list_in hno l a w hd h)
/-- .. that draws its order, and only reads. -/
theorem region_sat_in {r id : Nat} {l : List Oper} (hno : ¬ LetsOut Q) (hd : noDefer l = true) (hs : sat W H w) (hm : P.follows .mixedOrders = true) (hB : Region.lexB .any l.toArray = true)
    (h : ∀ (X : Type) (f : X → World), Nonempty X → (∀ x, sat W H (f x)) → (∀ w', sat W H w' → ∃ x, w' = f x) → wpQuiet P l.toArray (fun w' => ∃ x : X, w' = f x) (fun a' => ∀ w', sat W H w' → Q .normal a' w') l a) : (Code.region id l.toArray true).wpIn (Fence.wide.inRound r) 0 P Q a w := by
  have h' := h {w' : World // sat W H w'} (fun x => x.1) ⟨⟨w, hs⟩⟩ (fun x => x.2) (fun w' hw => ⟨⟨w', hw⟩, rfl⟩)
  have e : (fun w' => ∃ x : {w' : World // sat W H w'}, w' = x.1) = fun w' => sat W H w' := by
    funext w'
    exact propext ⟨fun ⟨x, hx⟩ => hx ▸ x.2, fun hx => ⟨⟨w', hx⟩, rfl⟩⟩
  rw [e] at h'
  simp only [Region.lexB, Bool.and_eq_true] at hB
  refine wpIn_region_any hm (any_in hno (by simpa using hd) _ _ _ _ (wpAny_of_quiet (C := fun w' => sat W H w') (Q := fun a' => ∀ w', sat W H w' → Q .normal a' w') (fun _ w' hw' h => h w' hw') _ _ _ _ hs.drew ?_))
  have := wpAnyQ_lex (C := fun w' => sat W H w') (md := .any) hB.1 l 0 (Array.replicate l.length false) a (by simp) (by simpa using hB.2) h'
  simpa using this
end
end Go.Mem
