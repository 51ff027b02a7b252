/- Cells and their texts, as lists of numbers: what a text is read as, by digits one by one, and by its parts. -/
import Derived.WalkKit
namespace Go.Dots
def bit (c d : Nat) : Bool := c / 2 ^ d % 2 == 1
def dig (c k : Nat) : List Nat := ((List.range k).filter (bit c)).map (49 + ·)
def DD (c k : Nat) : List Nat := ((List.range 8).filter fun d => decide (k ≤ d) && bit c d).map (49 + ·)
def cellTxt (c : Nat) : List Nat := (if c = 0 then [48] else []) ++ dig c 8
def sepTxt (l : List Nat) : List Nat := l.flatMap fun c => 45 :: cellTxt c
def txt (l : List Nat) : List Nat := (sepTxt l).tail
theorem dig_succ (c k : Nat) : dig c (k + 1) = dig c k ++ if bit c k = true then [49 + k] else [] := by
  unfold dig
  rw [List.range_succ, List.filter_append, List.map_append]
  by_cases h : bit c k = true <;> simp [h]
theorem sepTxt_snoc (l : List Nat) (c : Nat) : sepTxt (l ++ [c]) = sepTxt l ++ 45 :: cellTxt c := by simp [sepTxt]
theorem txt_snoc (l : List Nat) (c : Nat) : txt (l ++ [c]) = txt l ++ (if 0 < l.length then [45] else []) ++ cellTxt c := by
  unfold txt
  rw [sepTxt_snoc]
  cases l with
  | nil => simp [sepTxt]
  | cons a l => simp [sepTxt]
theorem txt_append (l m : List Nat) (hl : l ≠ []) (hm : m ≠ []) : txt (l ++ m) = txt l ++ 45 :: txt m := by
  cases l with
  | nil => exact (hl rfl).elim
  | cons a l =>
    cases m with
    | nil => exact (hm rfl).elim
    | cons b m => simp [txt, sepTxt]

/-! ## One part -/
/-- Digits behind the sign 48 + k, onto c. -/
def digs : List Nat → Nat → Nat → Option Nat
  | [], c, _ => some c
  | r :: p, c, k => if 48 + k < r ∧ r ≤ 56 then digs p (c + 2 ^ (r - 49)) (r - 48) else none
/-- A part. -/
def part (p : List Nat) : Option Nat := if p = [] then none else if p = [48] then some 0 else digs p 0 0
theorem step_ddB : ((List.range 256).all fun c => (List.range 8).all fun d => (List.range 8).all fun k => !decide (k ≤ d) || (!decide (2 ^ d ≤ c % 2 ^ (d + 1)) || (!decide (c % 2 ^ (d + 1) - 2 ^ d < 2 ^ k) || (decide (c % 2 ^ k = c % 2 ^ (d + 1) - 2 ^ d) && DD c k == (49 + d) :: DD c (d + 1))))) = true := by decide +kernel
theorem step_dd (c : Nat) (hc : c < 256) (d : Nat) (hd : d < 8) (k : Nat) (hk : k ≤ d) (h1 : 2 ^ d ≤ c % 2 ^ (d + 1)) (h2 : c % 2 ^ (d + 1) - 2 ^ d < 2 ^ k) : c % 2 ^ k = c % 2 ^ (d + 1) - 2 ^ d ∧ DD c k = (49 + d) :: DD c (d + 1) := by
  have h := step_ddB
  rw [List.all_eq_true] at h
  have h := h c (List.mem_range.2 hc)
  rw [List.all_eq_true] at h
  have h := h d (List.mem_range.2 hd)
  rw [List.all_eq_true] at h
  have h := h k (List.mem_range.2 (by omega))
  simpa [hk, h1, h2] using h
theorem nil_dd : ∀ k ≤ 8, ∀ c < 2 ^ k, DD c k = [] := by decide +kernel
theorem digs_dd : ∀ (p : List Nat) (c0 k c : Nat), k ≤ 8 → c0 < 2 ^ k → digs p c0 k = some c → c < 256 ∧ c % 2 ^ k = c0 ∧ p = DD c k
  | [], c0, k, c, hk, h0, h => by
    obtain rfl : c0 = c := by simpa [digs] using h
    have h8 : 2 ^ k ≤ 2 ^ 8 := Nat.pow_le_pow_right (by decide) hk
    exact ⟨by omega, Nat.mod_eq_of_lt h0, (nil_dd k hk c0 h0).symm⟩
  | r :: p, c0, k, c, hk, h0, h => by
    unfold digs at h
    split at h
    · rename_i hr
      obtain ⟨d, rfl⟩ : ∃ d, r = 49 + d := ⟨r - 49, by omega⟩
      rw [show 49 + d - 49 = d from by omega, show 49 + d - 48 = d + 1 from by omega] at h
      have hkd : 2 ^ k ≤ 2 ^ d := Nat.pow_le_pow_right (by decide) (by omega)
      have h2 : 2 ^ (d + 1) = 2 ^ d * 2 := Nat.pow_succ ..
      obtain ⟨hc, hm, hp⟩ := digs_dd p (c0 + 2 ^ d) (d + 1) c (by omega) (by omega) h
      obtain ⟨e1, e2⟩ := step_dd c hc d (by omega) k (by omega) (by omega) (by omega)
      exact ⟨hc, by omega, by rw [e2, hp]⟩
    · cases h
theorem dd_zero : ∀ c < 256, DD c 0 = dig c 8 := by decide +kernel
theorem part_all : ∀ c < 256, part (cellTxt c) = some c := by decide +kernel
theorem part_some {p : List Nat} {c : Nat} (h : part p = some c) : c < 256 ∧ cellTxt c = p := by
  unfold part at h
  split at h
  · cases h
  · rename_i hn
    split at h
    · rename_i hp; cases h; subst hp; exact ⟨by decide, rfl⟩
    · obtain ⟨hc, _, hp⟩ := digs_dd p 0 0 c (by decide) (by decide) h
      rw [dd_zero c hc] at hp
      refine ⟨hc, ?_⟩
      by_cases h0 : c = 0
      · subst h0; exact (hn hp).elim
      · unfold cellTxt; rw [if_neg h0, hp]; rfl
theorem cellTxt_inj {c d : Nat} (hc : c < 256) (hd : d < 256) (h : cellTxt c = cellTxt d) : c = d := by
  have h1 := part_all c hc
  rw [h, part_all d hd] at h1
  cases h1; rfl
theorem cellTxt_no : ∀ c < 256, ∀ b ∈ cellTxt c, 48 ≤ b ∧ b ≤ 56 := by decide +kernel
theorem cellTxt_ne : ∀ c < 256, cellTxt c ≠ [] := by decide +kernel
theorem dig_nil : ∀ c < 256, (dig c 8 = [] ↔ c = 0) := by decide +kernel
/-- The document's: the first cell with that text. -/
def find (p : List Nat) : Nat → Nat → Option Nat
  | 0, _ => none
  | n + 1, c => if cellTxt c = p then some c else find p n (c + 1)
theorem find_part (p : List Nat) : ∀ n c, n + c = 256 → (∀ k < c, cellTxt k ≠ p) → find p n c = part p
  | 0, c, hn, hk => by
    unfold find
    cases h : part p with
    | none => rfl
    | some d => obtain ⟨h1, h2⟩ := part_some h; exact (hk d (by omega) h2).elim
  | n + 1, c, hn, hk => by
    unfold find
    split
    · rename_i h; rw [← h, part_all c (by omega)]
    · rename_i h
      exact find_part p n (c + 1) (by omega) fun k hlt => by
        by_cases e : k = c
        · subst e; exact h
        · exact hk k (by omega)

/-! ## A whole text -/
structure St where
  out : List Nat
  c : Nat
  last : Nat
  none : Bool
def St.start : St := ⟨[], 0, 48, true⟩
def step (s : St) (r : Nat) : Option St :=
  if r = 45 then if s.last = 48 ∧ s.none = true then none else some ⟨s.out ++ [s.c], 0, 48, true⟩
  else if r = 48 ∧ s.none = true then some ⟨s.out, s.c, 56, false⟩
  else if s.last < r ∧ r ≤ 56 then some ⟨s.out, s.c + 2 ^ (r - 49), r, false⟩
  else none
def run : List Nat → St → Option St
  | [], s => some s
  | r :: l, s => (step s r).bind (run l)
def parse (s : List Nat) : Option (List Nat) := if s = [] then some [] else (run (s ++ [45]) .start).map (·.out)
/-- By parts: what is told so far, and the part that is open. -/
def rstep (s : List Nat × List Nat) (r : Nat) : Option (List Nat × List Nat) :=
  if r = 45 then (part s.2).map fun c => (s.1 ++ [c], []) else some (s.1, s.2 ++ [r])
def rrun : List Nat → List Nat × List Nat → Option (List Nat × List Nat)
  | [], s => some s
  | r :: l, s => (rstep s r).bind (rrun l)
def rparse (s : List Nat) : Option (List Nat) := if s = [] then some [] else (rrun (s ++ [45]) ([], [])).map (·.1)
theorem digs_snoc : ∀ (p : List Nat) (c k r : Nat), digs (p ++ [r]) c k = (digs p c k).bind fun c' => if 48 + (if p = [] then k else p.getLastD 0 - 48) < r ∧ r ≤ 56 then some (c' + 2 ^ (r - 49)) else none
  | [], c, k, r => by simp [digs]
  | x :: p, c, k, r => by
    simp only [List.cons_append, digs]
    split
    · rw [digs_snoc p _ _ r]
      congr 1
      funext c'
      cases p with
      | nil => simp
      | cons y p => simp
    · rfl
/-- What the machine has read of a part. -/
inductive Read : List Nat → St → Prop
  | empty (out) : Read [] ⟨out, 0, 48, true⟩
  | zero (out) : Read [48] ⟨out, 0, 56, false⟩
  | digs (out p c r) (h : Dots.digs (p ++ [r]) 0 0 = some c) (hr : 48 < r ∧ r ≤ 56) : Read (p ++ [r]) ⟨out, c, r, false⟩
theorem bad_more {p : List Nat} (h : ∀ l, part (p ++ l) = none) (r : Nat) : ∀ l, part (p ++ [r] ++ l) = none := fun l => by rw [List.append_assoc]; exact h _
theorem rrun_bad : ∀ (l : List Nat) (p o : List Nat), (∀ m, part (p ++ m) = none) → 45 ∈ l → rrun l (o, p) = none
  | [], _, _, _, h => by simp at h
  | r :: l, p, o, hb, h => by
    unfold rrun rstep
    split
    · have := hb []; rw [List.append_nil] at this; simp [this]
    · rename_i hr
      simp only [Option.bind_some]
      refine rrun_bad l _ o (bad_more hb r) ?_
      rcases List.mem_cons.1 h with e | e
      · exact (hr e.symm).elim
      · exact e
theorem digs_none : ∀ (p l : List Nat) (c k : Nat), digs p c k = none → digs (p ++ l) c k = none
  | [], _, _, _, h => by simp [digs] at h
  | r :: p, l, c, k, h => by
    simp only [List.cons_append, digs] at h ⊢
    split
    · rename_i hr; rw [if_pos hr] at h; exact digs_none p l _ _ h
    · rfl
theorem part_bad {p : List Nat} (hn : p ≠ []) (h0 : p ≠ [48]) (h : digs p 0 0 = none) : ∀ l, part (p ++ l) = none := fun l => by
  unfold part
  rw [if_neg (by simp [hn])]
  split
  · rename_i e
    cases p with
    | nil => exact (hn rfl).elim
    | cons a p =>
      simp at e
      obtain ⟨rfl, rfl, _⟩ := e
      exact (h0 rfl).elim
  · exact digs_none p l 0 0 h
theorem read_step {p : List Nat} {s : St} (h : Read p s) (r : Nat) (hr : r ≠ 45) : (∃ s', step s r = some s' ∧ s'.out = s.out ∧ Read (p ++ [r]) s') ∨ (step s r = none ∧ ∀ l, part (p ++ [r] ++ l) = none) := by
  cases h with
  | empty out =>
    by_cases h0 : r = 48
    · subst h0; exact .inl ⟨_, rfl, rfl, .zero _⟩
    · by_cases h1 : 48 < r ∧ r ≤ 56
      · refine .inl ⟨⟨out, 2 ^ (r - 49), r, false⟩, by simp [step, hr, h0, h1], rfl, .digs out [] _ r (by simp [digs, h1]) h1⟩
      · refine .inr ⟨by simp only [step]; rw [if_neg hr, if_neg (by simp [h0]), if_neg h1], part_bad (by simp) (by simp [h0]) (by simp only [List.nil_append, digs]; rw [if_neg (by simpa using h1)])⟩
  | zero out =>
    refine .inr ⟨by simp only [step]; rw [if_neg hr, if_neg (by simp), if_neg (by omega)], ?_⟩
    exact part_bad (by simp) (by simp) (by simp [digs])
  | digs out p c q h hq =>
    have hs := digs_snoc (p ++ [q]) 0 0 r
    rw [h] at hs
    simp only [Option.bind_some, List.append_eq_nil_iff, List.cons_ne_nil, and_false, if_false, List.getLastD_concat] at hs
    rw [show 48 + (q - 48) = q from by omega] at hs
    by_cases h1 : q < r ∧ r ≤ 56
    · rw [if_pos h1] at hs
      exact .inl ⟨⟨out, c + 2 ^ (r - 49), r, false⟩, by simp [step, hr, h1], rfl, .digs out (p ++ [q]) _ r hs (by omega)⟩
    · rw [if_neg h1] at hs
      exact .inr ⟨by simp only [step]; rw [if_neg hr, if_neg (by simp), if_neg h1], part_bad (by simp) (fun e => by have := congrArg List.length e; simp at this) hs⟩
theorem read_end {p : List Nat} {s : St} (h : Read p s) : step s 45 = (part p).map fun c => ⟨s.out ++ [c], 0, 48, true⟩ := by
  cases h with
  | empty out => rfl
  | zero out => rfl
  | digs out p c q h hq =>
    have e : part (p ++ [q]) = some c := by
      unfold part
      rw [if_neg (by simp), if_neg, h]
      intro e
      have : q = 48 := by
        have := congrArg List.getLast? e
        simpa using this
      omega
    rw [e]
    simp [step]
theorem run_rrun : ∀ (l : List Nat) (p : List Nat) (s : St), Read p s → (run (l ++ [45]) s).map (·.out) = (rrun (l ++ [45]) (s.out, p)).map (·.1)
  | [], p, s, h => by
    simp only [List.nil_append, run, rrun, rstep, read_end h, if_pos]
    cases part p <;> simp
  | r :: l, p, s, h => by
    simp only [List.cons_append, run, rrun]
    by_cases hr : r = 45
    · subst hr
      rw [read_end h]
      simp only [rstep, if_pos]
      cases part p with
      | none => rfl
      | some c => exact run_rrun l [] _ (.empty _)
    · rcases read_step h r hr with ⟨s', h1, h2, h3⟩ | ⟨h1, h2⟩
      · rw [h1]
        simp only [rstep, if_neg hr, Option.bind_some]
        rw [← h2]
        exact run_rrun l _ s' h3
      · rw [h1]
        simp only [rstep, if_neg hr, Option.bind_some, Option.bind_none]
        rw [rrun_bad (l ++ [45]) _ _ h2 (by simp)]
        rfl
theorem parse_rparse (s : List Nat) : parse s = rparse s := by
  unfold parse rparse
  split
  · rfl
  · exact run_rrun s [] _ (.empty _)

/-! ## There and back -/
theorem rrun_part : ∀ (q : List Nat) (l o p : List Nat), (∀ b ∈ q, b ≠ 45) → rrun (q ++ l) (o, p) = rrun l (o, p ++ q)
  | [], l, o, p, _ => by simp
  | b :: q, l, o, p, h => by
    simp only [List.cons_append, rrun, rstep, if_neg (h b (by simp)), Option.bind_some]
    rw [rrun_part q l o _ (fun x hx => h x (by simp [hx]))]
    simp
theorem rrun_sep : ∀ (l : List Nat) (o : List Nat) (c : Nat), (∀ x ∈ c :: l, x < 256) → rrun (cellTxt c ++ sepTxt l ++ [45]) (o, []) = some (o ++ c :: l, [])
  | [], o, c, h => by
    have hc : c < 256 := h c (by simp)
    simp only [sepTxt, List.flatMap_nil, List.append_nil]
    rw [rrun_part _ _ _ _ (fun b hb => by have := cellTxt_no c hc b hb; omega)]
    simp [rrun, rstep, part_all c hc]
  | d :: l, o, c, h => by
    have hc : c < 256 := h c (by simp)
    have ih := rrun_sep l (o ++ [c]) d (fun x hx => h x (by simp at hx ⊢; exact .inr hx))
    rw [show cellTxt c ++ sepTxt (d :: l) ++ [45] = cellTxt c ++ (45 :: (cellTxt d ++ sepTxt l ++ [45])) from by simp [sepTxt]]
    rw [rrun_part _ _ _ _ (fun b hb => by have := cellTxt_no c hc b hb; omega)]
    simp only [rrun, rstep, if_pos, List.nil_append, part_all c hc, Option.map_some, Option.bind_some]
    rw [ih]; simp
theorem parse_txt (l : List Nat) (h : ∀ x ∈ l, x < 256) : parse (txt l) = some l := by
  rw [parse_rparse]
  unfold rparse
  cases l with
  | nil => rfl
  | cons c l =>
    have hc : c < 256 := h c (by simp)
    have e : txt (c :: l) = cellTxt c ++ sepTxt l := by simp [txt, sepTxt]
    rw [e, if_neg (by simp [cellTxt_ne c hc]), rrun_sep l [] c h]
    rfl
/-- The text of what is told, and the part that is open. -/
theorem rrun_txt : ∀ (s : List Nat) (o p : List Nat) (o' p' : List Nat), rrun s (o, p) = some (o', p') → (∀ b ∈ p, b ≠ 45) → sepTxt o ++ 45 :: (p ++ s) = sepTxt o' ++ 45 :: p' ∧ (∀ b ∈ p', b ≠ 45)
  | [], o, p, o', p', h, hp => by
    simp only [rrun, Option.some.injEq, Prod.mk.injEq] at h
    obtain ⟨rfl, rfl⟩ := h
    exact ⟨by simp, hp⟩
  | r :: s, o, p, o', p', h, hp => by
    unfold rrun rstep at h
    simp only at h
    split at h
    · rename_i hr
      subst hr
      cases hc : part p with
      | none => rw [hc] at h; cases h
      | some c =>
        rw [hc] at h
        obtain ⟨_, e⟩ := part_some hc
        have := rrun_txt s (o ++ [c]) [] o' p' h (by simp)
        rw [sepTxt_snoc, e] at this
        exact ⟨by rw [← this.1]; simp, this.2⟩
    · rename_i hr
      have := rrun_txt s o (p ++ [r]) o' p' h (fun b hb => by
        rcases List.mem_append.1 hb with h1 | h1
        · exact hp b h1
        · rw [List.mem_singleton.1 h1]; exact hr)
      exact ⟨by rw [← this.1]; simp, this.2⟩
theorem txt_parse {s l : List Nat} (h : parse s = some l) : txt l = s := by
  rw [parse_rparse] at h
  unfold rparse at h
  split at h
  · rename_i e; cases h; rw [e]; rfl
  · cases hr : rrun (s ++ [45]) ([], []) with
    | none => rw [hr] at h; cases h
    | some q =>
      obtain ⟨o, p⟩ := q
      rw [hr] at h
      cases h
      obtain ⟨h1, h2⟩ := rrun_txt _ _ _ _ _ hr (by simp)
      have hp : p = [] := by
        cases hp : p.reverse with
        | nil => simpa using hp
        | cons x q =>
          have e : p = q.reverse ++ [x] := by have := congrArg List.reverse hp; simpa using this
          rw [e] at h1
          have e1 : (45 :: s) ++ [45] = (sepTxt o ++ 45 :: q.reverse) ++ [x] := by simpa [sepTxt] using h1
          have := congrArg List.getLast? e1
          rw [List.getLast?_concat, List.getLast?_concat] at this
          cases this
          exact (h2 45 (by rw [e]; simp) rfl).elim
      subst hp
      have h3 : [45] ++ s ++ [45] = sepTxt o ++ [45] := by simpa [sepTxt] using h1
      have h4 := List.append_cancel_right h3
      unfold txt
      rw [← h4]; rfl
theorem parse_bound {s l : List Nat} (h : parse s = some l) : ∀ x ∈ l, x < 256 := by
  rw [parse_rparse] at h
  unfold rparse at h
  split at h
  · cases h; simp
  · have key : ∀ (s : List Nat) (o p o' p' : List Nat), rrun s (o, p) = some (o', p') → (∀ x ∈ o, x < 256) → ∀ x ∈ o', x < 256 := by
      intro s
      induction s with
      | nil => intro o p o' p' h ho; cases h; exact ho
      | cons r s ih =>
        intro o p o' p' h ho
        unfold rrun rstep at h
        simp only at h
        split at h
        · cases hc : part p with
          | none => rw [hc] at h; cases h
          | some c =>
            rw [hc] at h
            exact ih _ _ _ _ h fun x hx => by
              rcases List.mem_append.1 hx with h1 | h1
              · exact ho x h1
              · rw [List.mem_singleton.1 h1]; exact (part_some hc).1
        · exact ih _ _ _ _ h ho
    cases hr : rrun (s ++ [45]) ([], []) with
    | none => rw [hr] at h; cases h
    | some q => rw [hr] at h; cases h; exact key _ _ _ _ _ hr (by simp)
end Go.Dots
