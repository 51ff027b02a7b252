/-
  A region that draws its order, walked stage by stage: reads (what they lean on may be written later, behind an operation that waits for them all), then whichever operation comes up; each way a goal of its own.
-/
import Derived.Test.YtdcagaaanbgcoaaSd
namespace Go.Mem
open Go.RowKit
/-- Operation t waits for i. -/
def waits (ops : Array Oper) (t i : Nat) : Bool := match ops[t]? with | some o => o.after.any (fun e => Region.binds .any e && e.on == i) | none => false
/-- S1 is asked until t1 has come, S2 until t2 has. -/
def Dem (S1 S2 : World → Prop) (t1 t2 : Nat) (l : Array Bool) (w : World) : Prop := (l.getD t1 true = false → S1 w) ∧ (l.getD t2 true = false → S2 w)
def wpAnyL (P : Program) (ops : Array Oper) (Q : Exit → Act → World → Prop) (S1 S2 : World → Prop) (t1 t2 : Nat) : Nat → Array Bool → Act → World → Prop
  | 0, listed, a, w => Region.ready .any ops listed = [] ∧ Q .normal a w
  | fuel + 1, listed, a, w =>
    (Region.ready .any ops listed = [] → Q .normal a w) ∧
    ∀ i ∈ Region.ready .any ops listed, wpOp P ops Q i (fun a' w' => Dem S1 S2 t1 t2 (listed.setIfInBounds i true) w' ∧ wpAnyL P ops Q S1 S2 t1 t2 fuel (listed.setIfInBounds i true) a' w') a w
section
variable {P : Program} {ops : Array Oper} {Q : Exit → Act → World → Prop} {S1 S2 : World → Prop} {t1 t2 : Nat}
theorem wpAny_of_L : ∀ (fuel : Nat) (listed : Array Bool) (a : Act) (w : World), wpAnyL P ops Q S1 S2 t1 t2 fuel listed a w → wpAny P .any ops Q fuel listed a w
  | 0, _, _, _, h => h
  | fuel + 1, _, _, _, h => ⟨h.1, fun i hi => wpOp_mono (fun a' w' h' => wpAny_of_L fuel _ a' w' h'.2) (h.2 i hi)⟩
theorem Dem.weaken {S1' S2' : World → Prop} (h1 : ∀ w, S1' w → S1 w) (h2 : ∀ w, S2' w → S2 w) {l : Array Bool} {w : World} (h : Dem S1' S2' t1 t2 l w) : Dem S1 S2 t1 t2 l w := ⟨fun e => h1 _ (h.1 e), fun e => h2 _ (h.2 e)⟩
theorem wpAnyL_weaken {S1' S2' : World → Prop} (h1 : ∀ w, S1' w → S1 w) (h2 : ∀ w, S2' w → S2 w) : ∀ (fuel : Nat) (listed : Array Bool) (a : Act) (w : World), wpAnyL P ops Q S1' S2' t1 t2 fuel listed a w → wpAnyL P ops Q S1 S2 t1 t2 fuel listed a w
  | 0, _, _, _, h => h
  | fuel + 1, _, _, _, h => ⟨h.1, fun i hi => wpOp_mono (fun a' w' h' => ⟨h'.1.weaken h1 h2, wpAnyL_weaken h1 h2 fuel _ a' w' h'.2⟩) (h.2 i hi)⟩
theorem unset {l : Array Bool} {i t : Nat} (h : (l.setIfInBounds i true).getD t true = false) : l.getD t true = false := by
  by_cases e : i = t
  · subst e
    rcases Nat.lt_or_ge i l.size with h' | h'
    · simp [Array.getD, h'] at h
    · simp [Array.getD, Nat.not_lt.2 h'] at h
  · rwa [getD_set_ne true e] at h
theorem wpAnyL_first {k : Bool} {i : Nat} {oi : Oper} {v : Value} (hi : ops[i]? = some oi) (hsel : ∀ (j : Nat) (o : Oper) cs b, ops[j]? = some o → o.op ≠ .select cs b)
    (hQ : ∀ c a w, Q (.panic c) (a.put oi.dst v) w → Q (.panic c) a w) (hwt : waits ops (if k then t2 else t1) i = true) (hi1 : i ≠ t1) (hi2 : i ≠ t2) :
    ∀ (fuel : Nat) (listed : Array Bool) (a : Act) (w : World), listed.getD (if k then t2 else t1) true = false → Dem S1 S2 t1 t2 listed w →
      (∀ j oj, ops[j]? = some oj → j ≠ i → listed.getD j true = false → (∀ e ∈ oj.after, Region.binds .any e = true → e.on ≠ i) → oi.apart ops oj = true) →
      i ∈ Region.ready .any ops listed → YieldsIf P ops (if k then S2 else S1) oi v a →
      wpAnyL P ops Q S1 S2 t1 t2 fuel (listed.setIfInBounds i true) (a.put oi.dst v) w → wpAnyL P ops Q S1 S2 t1 t2 (fuel + 1) listed a w := by
  intro fuel
  have hS : ∀ {listed : Array Bool} {w : World}, listed.getD (if k then t2 else t1) true = false → Dem S1 S2 t1 t2 listed w → (if k then S2 else S1) w := fun h d => by
    cases k
    · exact d.1 h
    · exact d.2 h
  induction fuel with
  | zero =>
    intro listed a w ht hd _ hr hy H
    refine ⟨fun h => (by rw [h] at hr; cases hr), fun j hj => ?_⟩
    by_cases hji : j = i
    · subst hji; exact hy.wpOp hi (hS ht hd) ⟨⟨fun e => hd.1 (unset e), fun e => hd.2 (unset e)⟩, H⟩
    · have := ready_mono hj hji
      rw [H.1] at this
      cases this
  | succ fuel ih =>
    intro listed a w ht hd hfree hr hy H
    refine ⟨fun h => (by rw [h] at hr; cases hr), fun j hj => ?_⟩
    by_cases hji : j = i
    · subst hji; exact hy.wpOp hi (hS ht hd) ⟨⟨fun e => hd.1 (unset e), fun e => hd.2 (unset e)⟩, H⟩
    · have h1 := H.2 j (ready_mono hj hji)
      obtain ⟨hjun, oj, hoj, hall⟩ := mem_ready.1 hj
      have hnot : ∀ e ∈ oj.after, Region.binds .any e = true → e.on ≠ i := fun e he hb heq => by
        have h1 := hall e he hb
        have h0 := (mem_ready.1 hr).1
        rw [heq] at h1
        rcases Nat.lt_or_ge i listed.size with h' | h'
        · simp [h'] at h0 h1; rw [h0] at h1; cases h1
        · simp [Array.getElem?_eq_none h'] at h1
      have hjt : j ≠ (if k then t2 else t1) := fun e => by
        unfold waits at hwt
        rw [← e, hoj] at hwt
        simp only at hwt
        obtain ⟨n, hn, hb⟩ := Array.any_eq_true.1 hwt
        simp only [Bool.and_eq_true, beq_iff_eq] at hb
        exact hnot _ (Array.getElem_mem hn) hb.1 hb.2
      have h2 := wpOp_putIf hoj (hfree j oj hoj hji hjun hnot) (fun cs b => hsel i oi cs b hi) (fun cs b => hsel j oj cs b hoj) hQ hy h1
      have hfree' : ∀ k ok, ops[k]? = some ok → k ≠ i → (listed.setIfInBounds j true).getD k true = false →
          (∀ e ∈ ok.after, Region.binds .any e = true → e.on ≠ i) → oi.apart ops ok = true := fun k ok hk hki hun hno => by
        refine hfree k ok hk hki ?_ hno
        by_cases hjk : j = k
        · subst hjk; exact hjun
        · rw [getD_set_ne true hjk] at hun; exact hun
      have ht' : (listed.setIfInBounds j true).getD (if k then t2 else t1) true = false := by rw [getD_set_ne true hjt]; exact ht
      have same : ∀ t, i ≠ t → ((listed.setIfInBounds i true).setIfInBounds j true).getD t true = (listed.setIfInBounds j true).getD t true := fun t h => by
        rw [Array.setIfInBounds_comm _ _ (Ne.symm hji), getD_set_ne true h]
      have hdem : ∀ w', Dem S1 S2 t1 t2 ((listed.setIfInBounds i true).setIfInBounds j true) w' → Dem S1 S2 t1 t2 (listed.setIfInBounds j true) w' := fun w' d =>
        ⟨fun e => d.1 (by rw [same t1 hi1]; exact e), fun e => d.2 (by rw [same t2 hi2]; exact e)⟩
      refine wpOp_mono (fun a' w' h3 => ⟨hdem _ h3.2.1, ih (listed.setIfInBounds j true) a' w' ht' (hdem _ h3.2.1) hfree' (ready_mono hr (Ne.symm hji)) h3.1 ?_⟩) h2
      rw [Array.setIfInBounds_comm _ _ hji]
      exact h3.2.2
end
section
variable {P : Program} {l : List Oper} {Q : Exit → Act → World → Prop} {t1 t2 : Nat}
/-- Reads, by what they lean on ('k': till t2 comes, else till t1 comes). -/
def rdsB (ops : Array Oper) (t1 t2 : Nat) (k : Bool) (rs : List Nat) (l : Array Bool) : Bool := rs.all (fun i => waits ops (if k then t2 else t1) i && i != t1 && i != t2) && !l.getD (if k then t2 else t1) true && (readsB ops rs l).1
theorem reads_L (hs : Region.noSelect l.toArray = true) (hQ : ∀ c a d v w, Q (.panic c) (Act.put a (some d) v) w → Q (.panic c) a w) {S1 S2 : World → Prop} {w : World} (k : Bool) {K : Act → Prop} :
    ∀ (rs : List Nat) (fuel : Nat) (listed : Array Bool) (a : Act), rdsB l.toArray t1 t2 k rs listed = true → Dem S1 S2 t1 t2 listed w → wpQuiet P l.toArray (if k then S2 else S1) K (nths l rs) a →
      (∀ a', K a' → wpAnyL P l.toArray Q S1 S2 t1 t2 fuel (readsB l.toArray rs listed).2 a' w) → wpAnyL P l.toArray Q S1 S2 t1 t2 (fuel + rs.length) listed a w
  | [], fuel, listed, a, _, _, h, next => next a h
  | i :: rs, fuel, listed, a, hb, hd, h, next => by
    unfold rdsB at hb
    simp only [List.all_cons, Bool.and_eq_true, bne_iff_ne, ne_eq, Bool.not_eq_true'] at hb
    obtain ⟨⟨⟨⟨⟨hwt, hi1⟩, hi2⟩, hall⟩, ht⟩, hb⟩ := hb
    unfold readsB at hb next
    split at hb
    · rename_i hc
      rw [if_pos hc] at next
      unfold rdB at hc
      simp only [Bool.and_eq_true] at hc
      obtain ⟨⟨h1, h2⟩, h3⟩ := hc
      cases ho : l[i]? with
      | none => rw [List.getElem?_toArray, ho] at h1; cases h1
      | some o =>
        have hi : l.toArray[i]? = some o := by rw [List.getElem?_toArray]; exact ho
        rw [hi] at h1
        have e : nths l (i :: rs) = o :: nths l rs := by rw [show nths l (i :: rs) = nth l i ++ nths l rs from rfl, nth_eq, ho]; rfl
        rw [e] at h
        unfold wpQuiet at h
        obtain ⟨v, hy, hk⟩ := yieldsIf_of_quiet h1 h
        have hS : (if k then S2 else S1) w := by
          cases k
          · exact hd.1 ht
          · exact hd.2 ht
        have hrest : rdsB l.toArray t1 t2 k rs (listed.setIfInBounds i true) = true := by
          unfold rdsB
          simp only [Bool.and_eq_true, Bool.not_eq_true']
          refine ⟨⟨hall, ?_⟩, hb⟩
          rw [getD_set_ne true (by cases k; exact hi1; exact hi2)]
          exact ht
        exact wpAnyL_first (k := k) hi (Region.noSelect_spec hs) (fun c a w hq => by cases hdd : o.dst with | none => rw [hdd] at hq; exact hq | some d => rw [hdd] at hq; exact hQ c a d _ w hq) hwt hi1 hi2 (fuel + rs.length) listed a w ht hd
          (Region.free_spec hi h2) (by simpa using h3) (hy ⟨w, hS⟩) (reads_L hs hQ k rs fuel _ _ hrest ⟨fun e => hd.1 (unset e), fun e => hd.2 (unset e)⟩ hk next)
    · cases hb
/-- The region begins. -/
theorem L_begin {W w : World} {H : List HProp} {id : Nat} {a : Act} (t1 t2 : Nat) (Hs1 Hs2 : List HProp) (hs : sat W H w) (h1 : ∀ w, sat W H w → sat W Hs1 w) (h2 : ∀ w, sat W H w → sat W Hs2 w) (hm : P.follows .mixedOrders = true)
    (h : ∀ w, sat W H w → Dem (sat W Hs1) (sat W Hs2) t1 t2 (Array.replicate l.length false) w → wpAnyL P l.toArray Q (sat W Hs1) (sat W Hs2) t1 t2 l.length (Array.replicate l.length false) a w) : (Code.region id l.toArray true).wp P Q a w := by
  refine wp_region_any hm (wpAny_of_L (S1 := sat W Hs1) (S2 := sat W Hs2) (t1 := t1) (t2 := t2) _ _ _ _ ?_)
  have := h w.drew hs.drew ⟨fun _ => h1 _ hs.drew, fun _ => h2 _ hs.drew⟩
  simpa using this
variable {W w : World} {Hs1 Hs2 H : List HProp}
/-- Reads. -/
theorem L_reads (k : Bool) (rs : List Nat) (listed' : Array Bool) {n fuel : Nat} {listed : Array Bool} {a : Act} (hd : Dem (sat W Hs1) (sat W Hs2) t1 t2 listed w)
    (hb : (Region.noSelect l.toArray && rdsB l.toArray t1 t2 k rs listed && ((readsB l.toArray rs listed).2 == listed') && (n == fuel + rs.length)) = true) (hQ : ∀ c a d v w, Q (.panic c) (Act.put a (some d) v) w → Q (.panic c) a w)
    (h : ∀ (X : Type) (f : X → World), Nonempty X → (∀ x, sat W (if k then Hs2 else Hs1) (f x)) → (∀ w', sat W (if k then Hs2 else Hs1) w' → ∃ x, w' = f x) → Dem (sat W Hs1) (sat W Hs2) t1 t2 listed' w → wpQuiet P l.toArray (fun w' => ∃ x : X, w' = f x)
      (fun a' => wpAnyL P l.toArray Q (sat W Hs1) (sat W Hs2) t1 t2 fuel listed' a' w) (nths l rs) a) : wpAnyL P l.toArray Q (sat W Hs1) (sat W Hs2) t1 t2 n listed a w := by
  simp only [Bool.and_eq_true, beq_iff_eq] at hb
  obtain ⟨⟨⟨h1, h2⟩, h3⟩, rfl⟩ := hb
  have hw : sat W (if k then Hs2 else Hs1) w := by
    unfold rdsB at h2
    simp only [Bool.and_eq_true, Bool.not_eq_true'] at h2
    cases k
    · exact hd.1 h2.1.2
    · exact hd.2 h2.1.2
  have hd' : ∀ (rs : List Nat) (listed : Array Bool), Dem (sat W Hs1) (sat W Hs2) t1 t2 listed w → Dem (sat W Hs1) (sat W Hs2) t1 t2 (readsB l.toArray rs listed).2 w := fun rs => by
    induction rs with
    | nil => exact fun _ d => d
    | cons i rs ih =>
      intro listed d
      unfold readsB
      split
      · exact ih _ ⟨fun e => d.1 (unset e), fun e => d.2 (unset e)⟩
      · exact d
  have h' := h {w' : World // sat W (if k then Hs2 else Hs1) w'} (fun x => x.1) ⟨⟨w, hw⟩⟩ (fun x => x.2) (fun w' hw => ⟨⟨w', hw⟩, rfl⟩) (h3 ▸ hd' rs listed hd)
  have e : (fun w' => ∃ x : {w' : World // sat W (if k then Hs2 else Hs1) w'}, w' = x.1) = (if k then sat W Hs2 else sat W Hs1) := by
    funext w'
    cases k
    · exact propext ⟨fun ⟨x, hx⟩ => hx ▸ x.2, fun hx => ⟨⟨w', hx⟩, rfl⟩⟩
    · exact propext ⟨fun ⟨x, hx⟩ => hx ▸ x.2, fun hx => ⟨⟨w', hx⟩, rfl⟩⟩
  rw [e] at h'
  exact reads_L h1 hQ k rs fuel listed a h2 hd h' (fun a' ha' => by rw [h3]; exact ha')
theorem L_reads1 (rs : List Nat) (listed' : Array Bool) {n fuel : Nat} {listed : Array Bool} {a : Act} (hd : Dem (sat W Hs1) (sat W Hs2) t1 t2 listed w)
    (hb : (Region.noSelect l.toArray && rdsB l.toArray t1 t2 false rs listed && ((readsB l.toArray rs listed).2 == listed') && (n == fuel + rs.length)) = true) (hQ : ∀ c a d v w, Q (.panic c) (Act.put a (some d) v) w → Q (.panic c) a w)
    (h : ∀ (X : Type) (f : X → World), Nonempty X → (∀ x, sat W Hs1 (f x)) → (∀ w', sat W Hs1 w' → ∃ x, w' = f x) → Dem (sat W Hs1) (sat W Hs2) t1 t2 listed' w → wpQuiet P l.toArray (fun w' => ∃ x : X, w' = f x)
      (fun a' => wpAnyL P l.toArray Q (sat W Hs1) (sat W Hs2) t1 t2 fuel listed' a' w) (nths l rs) a) : wpAnyL P l.toArray Q (sat W Hs1) (sat W Hs2) t1 t2 n listed a w :=
  L_reads false rs listed' hd hb hQ h
theorem L_reads2 (rs : List Nat) (listed' : Array Bool) {n fuel : Nat} {listed : Array Bool} {a : Act} (hd : Dem (sat W Hs1) (sat W Hs2) t1 t2 listed w)
    (hb : (Region.noSelect l.toArray && rdsB l.toArray t1 t2 true rs listed && ((readsB l.toArray rs listed).2 == listed') && (n == fuel + rs.length)) = true) (hQ : ∀ c a d v w, Q (.panic c) (Act.put a (some d) v) w → Q (.panic c) a w)
    (h : ∀ (X : Type) (f : X → World), Nonempty X → (∀ x, sat W Hs2 (f x)) → (∀ w', sat W Hs2 w' → ∃ x, w' = f x) → Dem (sat W Hs1) (sat W Hs2) t1 t2 listed' w → wpQuiet P l.toArray (fun w' => ∃ x : X, w' = f x)
      (fun a' => wpAnyL P l.toArray Q (sat W Hs1) (sat W Hs2) t1 t2 fuel listed' a' w) (nths l rs) a) : wpAnyL P l.toArray Q (sat W Hs1) (sat W Hs2) t1 t2 n listed a w :=
  L_reads true rs listed' hd hb hQ h
/-- What is left to show behind an operation. -/
def Onw (P : Program) (l : List Oper) (Q : Exit → Act → World → Prop) (W : World) (Hs1 Hs2 : List HProp) (t1 t2 fuel : Nat) (listed : Array Bool) (a : Act) (w : World) : Prop :=
  ∃ H1 H2 : List HProp, (∀ w, sat W H1 w → sat W Hs1 w) ∧ (∀ w, sat W H2 w → sat W Hs2 w) ∧ Dem (sat W H1) (sat W H2) t1 t2 listed w ∧ wpAnyL P l.toArray Q (sat W H1) (sat W H2) t1 t2 fuel listed a w
/-- Each operation that may come now. -/
def Each (P : Program) (l : List Oper) (Q : Exit → Act → World → Prop) (W : World) (Hs1 Hs2 : List HProp) (t1 t2 fuel : Nat) (listed : Array Bool) (a : Act) (w : World) : List Nat → Prop
  | [] => True
  | i :: r => wpList P l.toArray (Exit.then (fun a2 w2 => Onw P l Q W Hs1 Hs2 t1 t2 fuel (listed.setIfInBounds i true) a2 w2) Q) (nth l i) a w ∧ Each P l Q W Hs1 Hs2 t1 t2 fuel listed a w r
theorem Each.mem {fuel : Nat} {listed : Array Bool} {a : Act} : ∀ {r : List Nat}, Each P l Q W Hs1 Hs2 t1 t2 fuel listed a w r → ∀ i ∈ r, wpList P l.toArray (Exit.then (fun a2 w2 => Onw P l Q W Hs1 Hs2 t1 t2 fuel (listed.setIfInBounds i true) a2 w2) Q) (nth l i) a w
  | [], _, _, hi => by cases hi
  | j :: r, h, i, hi => by
    rcases List.mem_cons.1 hi with rfl | hi
    · exact h.1
    · exact h.2.mem i hi
theorem L_each (rs : List Nat) {fuel : Nat} {listed : Array Bool} {a : Act} (hr : (Region.ready .any l.toArray listed == rs && !rs.isEmpty) = true)
    (h : Each P l Q W Hs1 Hs2 t1 t2 fuel listed a w rs) : wpAnyL P l.toArray Q (sat W Hs1) (sat W Hs2) t1 t2 (fuel + 1) listed a w := by
  simp only [Bool.and_eq_true, beq_iff_eq, Bool.not_eq_true'] at hr
  obtain ⟨hr, hne⟩ := hr
  refine ⟨fun e => (by rw [hr] at e; rw [e] at hne; simp at hne), fun i hi => ?_⟩
  have hi2 := hi
  rw [hr] at hi2
  obtain ⟨o, ho, _⟩ := (mem_ready.1 hi).2
  have ho' : l[i]? = some o := by rw [List.getElem?_toArray] at ho; exact ho
  have h3 := h.mem i hi2
  rw [nth_eq, ho'] at h3
  refine wpOp_mono (fun a2 w2 hk => ?_) (wpOp_of_then ho h3)
  obtain ⟨H1, H2, k1, k2, k3, k4⟩ := hk
  exact ⟨k3.weaken k1 k2, wpAnyL_weaken k1 k2 _ _ _ _ k4⟩
theorem L_done {fuel : Nat} {listed : Array Bool} {a : Act} (hr : (Region.ready .any l.toArray listed).isEmpty = true) (h : Q .normal a w) : wpAnyL P l.toArray Q (sat W Hs1) (sat W Hs2) t1 t2 fuel listed a w := by
  have e : Region.ready .any l.toArray listed = [] := by simpa using hr
  cases fuel with
  | zero => exact ⟨e, h⟩
  | succ n => exact ⟨fun _ => h, fun i hi => by rw [e] at hi; cases hi⟩
/-- The world as it is now. -/
theorem on_now {W0 : World} {H' : List HProp} {fuel : Nat} {listed : Array Bool} {a : Act} (hs : sat W0 H' w) (h : sat W0 H' w → Onw P l Q W Hs1 Hs2 t1 t2 fuel listed a w) : Onw P l Q W Hs1 Hs2 t1 t2 fuel listed a w := h hs
/-- On: what is still asked is shown of the parts H'. -/
theorem L_on {H' : List HProp} (H1 H2 : List HProp) (listed' : Array Bool) {fuel : Nat} {listed : Array Bool} {a : Act} (hs : sat W H' w) (e : (listed == listed') = true) (k1 : ∀ w, sat W H1 w → sat W Hs1 w) (k2 : ∀ w, sat W H2 w → sat W Hs2 w)
    (d1 : listed'.getD t1 true = false → sat W H1 w) (d2 : listed'.getD t2 true = false → sat W H2 w) (h : Dem (sat W H1) (sat W H2) t1 t2 listed' w → sat W H' w → wpAnyL P l.toArray Q (sat W H1) (sat W H2) t1 t2 fuel listed' a w) :
    Onw P l Q W Hs1 Hs2 t1 t2 fuel listed a w := by
  have e := beq_iff_eq.1 e
  subst e
  exact ⟨H1, H2, k1, k2, ⟨d1, d2⟩, h ⟨d1, d2⟩ hs⟩
end
end Go.Mem
