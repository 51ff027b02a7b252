/- Attributes, and what numbers do to them, as plain functions. -/
import Derived.WalkKit
namespace Go.Sgr
structure At where
  fg : Int
  bg : Int
  fl : Int
  deriving DecidableEq
def orF (f m : Int) : Int := IntKind.u16.wrap ((BitVec.ofInt 16 f ||| BitVec.ofInt 16 m).toNat : Int)
def andnF (f m : Int) : Int := IntKind.u16.wrap ((BitVec.ofInt 16 f &&& ~~~BitVec.ofInt 16 m).toNat : Int)
def zero : At := ⟨0, 0, 0⟩
/-- The flags' numbers. -/
def on (n : Int) : Int := if n = 1 then 1 else if n = 2 then 2 else if n = 3 then 4 else if n = 4 then 8 else if n = 5 then 16 else if n = 7 then 32 else if n = 8 then 64 else if n = 9 then 128 else 0
def off (n : Int) : Int := if n = 22 then 3 else if n = 23 then 4 else if n = 24 then 8 else if n = 25 then 16 else if n = 27 then 32 else if n = 28 then 64 else if n = 29 then 128 else 0
def plain (a : At) (n : Int) : At :=
  if n = 0 then zero
  else if on n ≠ 0 then { a with fl := orF a.fl (on n) }
  else if off n ≠ 0 then { a with fl := andnF a.fl (off n) }
  else if 30 ≤ n ∧ n ≤ 37 then { a with fg := n - 29 }
  else if 40 ≤ n ∧ n ≤ 47 then { a with bg := n - 39 }
  else if 90 ≤ n ∧ n ≤ 97 then { a with fg := n - 81 }
  else if 100 ≤ n ∧ n ≤ 107 then { a with bg := n - 91 }
  else if n = 39 then { a with fg := 0 }
  else if n = 49 then { a with bg := 0 }
  else a
def b255 (x : Int) : Prop := 0 ≤ x ∧ x ≤ 255
instance (x : Int) : Decidable (b255 x) := inferInstanceAs (Decidable (_ ∧ _))
def setC (a : At) (n c : Int) : At := if c = 0 then a else if n = 38 then { a with fg := c } else { a with bg := c }
/-- The colour that follows (0: it stays), and how many numbers it takes. -/
def follows : List Int → Option (Int × Nat)
  | k :: x :: l =>
    if k = 5 then some (if b255 x then x + 1 else 0, 2)
    else match k, x, l with
      | 2, r, g :: b :: _ => some (if b255 r ∧ b255 g ∧ b255 b then 16777216 + r * 65536 + g * 256 + b else 0, 4)
      | _, _, _ => none
  | _ => none
theorem follows_len {l : List Int} {c : Int} {k : Nat} (h : follows l = some (c, k)) : k ≤ l.length ∧ 2 ≤ k := by
  unfold follows at h
  split at h
  · split at h
    · cases h; simp
    · split at h
      · cases h; simp
      · cases h
  · cases h
def app : Nat → At → List Int → At
  | 0, a, _ => a
  | _ + 1, a, [] => a
  | f + 1, a, n :: l => if n = 38 ∨ n = 48 then match follows l with | none => a | some (c, k) => app f (setC a n c) (l.drop k) else app f (plain a n) l
def apply (a : At) (l : List Int) : At := if l = [] then zero else app l.length a l
theorem app_fuel : ∀ (f g : Nat) (a : At) (l : List Int), l.length ≤ f → l.length ≤ g → app f a l = app g a l
  | 0, 0, _, _, _, _ => rfl
  | 0, g + 1, a, l, h, _ => by
    obtain rfl : l = [] := List.length_eq_zero_iff.1 (by omega)
    rfl
  | f + 1, 0, a, l, _, h => by
    obtain rfl : l = [] := List.length_eq_zero_iff.1 (by omega)
    rfl
  | f + 1, g + 1, a, [], _, _ => rfl
  | f + 1, g + 1, a, n :: l, h1, h2 => by
    simp only [List.length_cons] at h1 h2
    unfold app
    split
    · cases h : follows l with
      | none => rfl
      | some p => obtain ⟨c, k⟩ := p; exact app_fuel f g _ _ (by simp; omega) (by simp; omega)
    · exact app_fuel f g _ _ (by omega) (by omega)
/-- All numbers, from an attribute on. -/
def go (a : At) (l : List Int) : At := app l.length a l
theorem go_nil (a : At) : go a [] = a := rfl
theorem go_plain (a : At) (n : Int) (l : List Int) (h : ¬(n = 38 ∨ n = 48)) : go a (n :: l) = go (plain a n) l := by
  unfold go
  rw [List.length_cons]
  conv => lhs; unfold app
  rw [if_neg h]
theorem go_none (a : At) (n : Int) (l : List Int) (h : n = 38 ∨ n = 48) (hf : follows l = none) : go a (n :: l) = a := by
  unfold go
  rw [List.length_cons]
  conv => lhs; unfold app
  rw [if_pos h, hf]
theorem go_some (a : At) (n c : Int) (k : Nat) (l : List Int) (h : n = 38 ∨ n = 48) (hf : follows l = some (c, k)) : go a (n :: l) = go (setC a n c) (l.drop k) := by
  unfold go
  rw [List.length_cons]
  conv => lhs; unfold app
  rw [if_pos h, hf]
  exact app_fuel _ _ _ _ (by simp) (Nat.le_refl _)
theorem go_append (l m : List Int) (a : At) (h : ∀ n ∈ l, ¬(n = 38 ∨ n = 48)) : go a (l ++ m) = go (go a l) m := by
  induction l generalizing a with
  | nil => rfl
  | cons n l ih =>
    rw [List.cons_append, go_plain _ _ _ (h n (by simp)), go_plain _ _ _ (h n (by simp))]
    exact ih _ (fun x hx => h x (by simp [hx]))

/-! ## Whether it may be -/
def colour (c : Int) : Prop := c ≤ 256 ∨ (16777216 ≤ c ∧ c < 33554432)
instance (x : Int) : Decidable (colour x) := inferInstanceAs (Decidable (_ ∨ _))
def may (a : At) : Prop := a.fl < 256 ∧ colour a.fg ∧ colour a.bg
instance (x : At) : Decidable (may x) := inferInstanceAs (Decidable (_ ∧ _))
def wf (a : At) : Prop := (0 ≤ a.fg ∧ a.fg < 4294967296) ∧ (0 ≤ a.bg ∧ a.bg < 4294967296) ∧ 0 ≤ a.fl ∧ a.fl < 65536
theorem wrap16 (x : Nat) (h : x < 65536) : IntKind.u16.wrap (x : Int) = x := by
  have h1 : IntKind.u16.wrap (x : Int) = (x : Int) % 65536 := by rfl
  rw [h1]; omega
theorem orF_nat (f m : Nat) (hf : f < 65536) (hm : m < 65536) : orF f m = ((f ||| m : Nat) : Int) := by
  unfold orF
  rw [wrap16 _ (BitVec.isLt _)]
  congr 1
  simp only [BitVec.toNat_or, BitVec.ofInt_natCast, BitVec.toNat_ofNat]
  rw [Nat.mod_eq_of_lt hf, Nat.mod_eq_of_lt hm]
theorem andnF_nat (f m : Nat) (hf : f < 65536) (hm : m < 65536) : andnF f m = ((f &&& (65535 - m) : Nat) : Int) := by
  unfold andnF
  rw [wrap16 _ (BitVec.isLt _)]
  congr 1
  simp only [BitVec.toNat_and, BitVec.toNat_not, BitVec.ofInt_natCast, BitVec.toNat_ofNat]
  rw [Nat.mod_eq_of_lt hf, Nat.mod_eq_of_lt hm]
end Go.Sgr
namespace Go.Sgr
/-! ## Flags -/
theorem or_and_distrib (f m n : Nat) : (f ||| m) &&& n = (f &&& n) ||| (m &&& n) := by
  apply Nat.eq_of_testBit_eq; intro i; simp only [Nat.testBit_and, Nat.testBit_or]; cases f.testBit i <;> cases m.testBit i <;> cases n.testBit i <;> rfl
theorem or_lt {f m : Nat} (k : Nat) (hf : f < 2 ^ k) (hm : m < 2 ^ k) : f ||| m < 2 ^ k := Nat.or_lt_two_pow hf hm
theorem and_lt {f m k : Nat} (hf : f < k) : f &&& m < k := Nat.lt_of_le_of_lt Nat.and_le_left hf
/-- The masks of a number. -/
theorem on_cases (n : Int) : on n = 0 ∨ (∃ m : Nat, on n = m ∧ 0 < m ∧ m < 256) := by
  unfold on
  repeat' split
  all_goals first | exact .inl rfl | exact .inr ⟨_, rfl, by decide, by decide⟩
theorem off_cases (n : Int) : off n = 0 ∨ (∃ m : Nat, off n = m ∧ 0 < m ∧ m < 256) := by
  unfold off
  repeat' split
  all_goals first | exact .inl rfl | exact .inr ⟨_, rfl, by decide, by decide⟩
theorem orF_twice (f m : Nat) (hf : f < 65536) (hm : m < 256) : orF (orF f m) m = orF f m := by
  rw [orF_nat f m hf (by omega), orF_nat _ m (or_lt 16 hf (by omega)) (by omega), Nat.or_assoc, Nat.or_self]
theorem andnF_twice (f m : Nat) (hf : f < 65536) (hm : m < 256) : andnF (andnF f m) m = andnF f m := by
  rw [andnF_nat f m hf (by omega), andnF_nat _ m (and_lt hf) (by omega), Nat.and_assoc, Nat.and_self]
theorem andn_or (f m n : Nat) (hf : f < 65536) (hm : m < 256) (hn : n < 256) (h : m &&& (65535 - n) = 0) : andnF (orF f m) n = andnF f n := by
  rw [orF_nat f m hf (by omega), andnF_nat _ n (or_lt 16 hf (by omega)) (by omega), andnF_nat f n hf (by omega), or_and_distrib, h, Nat.or_zero]
theorem or_andn_ne (f m n : Nat) (hf : f < 65536) (hm : m < 256) (hn : n < 256) (h0 : m ≠ 0) (h : (65535 - n) &&& m = 0) : orF (andnF f n) m ≠ andnF f n := by
  rw [andnF_nat f n hf (by omega), orF_nat _ m (and_lt hf) (by omega)]
  intro e
  have e1 : (f &&& (65535 - n)) ||| m = f &&& (65535 - n) := by omega
  have e2 := congrArg (· &&& m) e1
  simp only [or_and_distrib, Nat.and_self, Nat.and_assoc, h, Nat.and_zero, Nat.zero_or] at e2
  exact h0 e2

/-! ## What is kept -/
theorem fl_nat {a : At} (h : wf a) : ∃ f : Nat, a.fl = f ∧ f < 65536 := ⟨a.fl.toNat, by have := h.2.2; omega, by have := h.2.2; omega⟩
theorem plain_wf {a : At} (h : wf a) (n : Int) : wf (plain a n) := by
  obtain ⟨f, hf, hl⟩ := fl_nat h
  obtain ⟨h1, h2, h3⟩ := h
  have hz : wf zero := by unfold wf zero; simp
  unfold plain
  split
  · exact hz
  split
  · rcases on_cases n with e | ⟨m, e, m0, m1⟩
    · contradiction
    · rw [e, hf, orF_nat f m hl (by omega)]
      have := or_lt 16 hl (show m < 2 ^ 16 by omega)
      exact ⟨h1, h2, by simp only; omega⟩
  split
  · rcases off_cases n with e | ⟨m, e, m0, m1⟩
    · contradiction
    · rw [e, hf, andnF_nat f m hl (by omega)]
      have := and_lt (m := 65535 - m) hl
      exact ⟨h1, h2, by simp only; omega⟩
  repeat' split
  all_goals exact ⟨by first | exact h1 | (simp only; omega), by first | exact h2 | (simp only; omega), h3⟩
theorem plain_may {a : At} (h : wf a) (hm : may a) (n : Int) : may (plain a n) := by
  obtain ⟨f, hf, hl⟩ := fl_nat h
  obtain ⟨m1, m2, m3⟩ := hm
  have hz : may zero := by unfold may zero colour; simp
  unfold plain
  split
  · exact hz
  split
  · rcases on_cases n with e | ⟨m, e, _, _⟩
    · contradiction
    · rw [e, hf, orF_nat f m hl (by omega)]
      have := or_lt 8 (show f < 2 ^ 8 by omega) (show m < 2 ^ 8 by omega)
      exact ⟨by simp only; omega, m2, m3⟩
  split
  · rcases off_cases n with e | ⟨m, e, _, _⟩
    · contradiction
    · rw [e, hf, andnF_nat f m hl (by omega)]
      have := and_lt (m := 65535 - m) (show f < 256 by omega)
      exact ⟨by simp only; omega, m2, m3⟩
  repeat' split
  all_goals exact ⟨m1, by first | exact m2 | (unfold colour; simp only; omega), by first | exact m3 | (unfold colour; simp only; omega)⟩
theorem follows_col {l : List Int} {c : Int} {k : Nat} (h : follows l = some (c, k)) : 0 ≤ c ∧ c < 33554432 ∧ colour c := by
  unfold follows at h
  split at h
  · split at h
    · split at h
      · rename_i h2; unfold b255 at h2; cases h; unfold colour; omega
      · cases h; unfold colour; omega
    · split at h
      · split at h
        · rename_i h2; unfold b255 at h2; cases h; unfold colour; omega
        · cases h; unfold colour; omega
      · cases h
  · cases h
theorem setC_wf {a : At} (h : wf a) (n c : Int) (h0 : 0 ≤ c) (h1 : c < 33554432) : wf (setC a n c) := by
  obtain ⟨h2, h3, h4⟩ := h
  unfold setC
  repeat' split
  · exact ⟨h2, h3, h4⟩
  · exact ⟨by simp only; omega, h3, h4⟩
  · exact ⟨h2, by simp only; omega, h4⟩
theorem setC_may {a : At} (h : may a) (n c : Int) (hc : colour c) : may (setC a n c) := by
  obtain ⟨h2, h3, h4⟩ := h
  unfold setC
  repeat' split
  · exact ⟨h2, h3, h4⟩
  · exact ⟨h2, hc, h4⟩
  · exact ⟨h2, h3, hc⟩
theorem go_keeps : ∀ (k : Nat) (l : List Int) (a : At), l.length ≤ k → wf a → wf (go a l) ∧ (may a → may (go a l))
  | 0, l, a, hl, h => by
    obtain rfl : l = [] := List.length_eq_zero_iff.1 (by omega)
    exact ⟨h, fun hm => hm⟩
  | _ + 1, [], a, _, h => ⟨h, fun hm => hm⟩
  | k + 1, n :: l, a, hl, h => by
    simp only [List.length_cons] at hl
    by_cases hn : n = 38 ∨ n = 48
    · cases hf : follows l with
      | none => rw [go_none a n l hn hf]; exact ⟨h, fun hm => hm⟩
      | some p =>
        obtain ⟨c, j⟩ := p
        obtain ⟨c0, c1, c2⟩ := follows_col hf
        rw [go_some a n c j l hn hf]
        have := go_keeps k (l.drop j) (setC a n c) (by simp; omega) (setC_wf h n c c0 c1)
        exact ⟨this.1, fun hm => this.2 (setC_may hm n c c2)⟩
    · rw [go_plain a n l hn]
      have := go_keeps k l (plain a n) (by omega) (plain_wf h n)
      exact ⟨this.1, fun hm => this.2 (plain_may h hm n)⟩
theorem apply_wf {a : At} (h : wf a) (l : List Int) : wf (apply a l) := by
  unfold apply; split
  · unfold wf zero; simp
  · exact (go_keeps _ l a (Nat.le_refl _) h).1
theorem apply_may {a : At} (h : wf a) (hm : may a) (l : List Int) : may (apply a l) := by
  unfold apply; split
  · unfold may zero colour; simp
  · exact (go_keeps _ l a (Nat.le_refl _) h).2 hm
theorem apply_cons (a : At) (n : Int) (l : List Int) : apply a (n :: l) = go a (n :: l) := by unfold apply; rw [if_neg (by simp)]; rfl
theorem apply_two (a : At) (l m : List Int) (hl : l ≠ []) (hm : m ≠ []) (h : ∀ n ∈ l, ¬(n = 38 ∨ n = 48)) : apply a (l ++ m) = apply (apply a l) m := by
  have e1 : apply a (l ++ m) = go a (l ++ m) := by unfold apply; rw [if_neg (by simp [hl])]; rfl
  have e2 : apply a l = go a l := by unfold apply; rw [if_neg hl]; rfl
  have e3 : apply (go a l) m = go (go a l) m := by unfold apply; rw [if_neg hm]; rfl
  rw [e1, e2, e3, go_append l m a h]
theorem apply_zero (a b : At) (l : List Int) : apply a (0 :: l) = apply b (0 :: l) := by
  rw [apply_cons, apply_cons, go_plain _ _ _ (by decide), go_plain _ _ _ (by decide)]; rfl
theorem apply_one (a : At) (n : Int) (h : ¬(n = 38 ∨ n = 48)) : apply a [n] = plain a n := by rw [apply_cons, go_plain _ _ _ h]; rfl
theorem apply_pair (a : At) (n k : Int) (h : ¬(n = 38 ∨ n = 48)) (h2 : ¬(k = 38 ∨ k = 48)) : apply a [n, k] = plain (plain a n) k := by
  rw [apply_cons, go_plain _ _ _ h, go_plain _ _ _ h2]; rfl
theorem plain_twice {a : At} (h : wf a) (n : Int) : plain (plain a n) n = plain a n := by
  obtain ⟨f, hf, hl⟩ := fl_nat h
  unfold plain
  by_cases c0 : n = 0
  · rw [if_pos c0, if_pos c0]
  rw [if_neg c0]
  by_cases c1 : on n ≠ 0
  · rcases on_cases n with e | ⟨m, e, _, _⟩
    · exact (c1 e).elim
    · rw [if_pos c1, if_neg c0, if_pos c1, e, hf]
      simp only [orF_twice f m hl (by omega)]
  rw [if_neg c1]
  by_cases c2 : off n ≠ 0
  · rcases off_cases n with e | ⟨m, e, _, _⟩
    · exact (c2 e).elim
    · rw [if_pos c2, if_neg c0, if_neg c1, if_pos c2, e, hf]
      simp only [andnF_twice f m hl (by omega)]
  rw [if_neg c2, if_neg c0, if_neg c1, if_neg c2]
  by_cases d1 : 30 ≤ n ∧ n ≤ 37
  · rw [if_pos d1, if_pos d1]
  rw [if_neg d1]
  by_cases d2 : 40 ≤ n ∧ n ≤ 47
  · rw [if_pos d2, if_neg d1, if_pos d2]
  rw [if_neg d2]
  by_cases d3 : 90 ≤ n ∧ n ≤ 97
  · rw [if_pos d3, if_neg d1, if_neg d2, if_pos d3]
  rw [if_neg d3]
  by_cases d4 : 100 ≤ n ∧ n ≤ 107
  · rw [if_pos d4, if_neg d1, if_neg d2, if_neg d3, if_pos d4]
  rw [if_neg d4]
  by_cases d5 : n = 39
  · rw [if_pos d5, if_neg d1, if_neg d2, if_neg d3, if_neg d4, if_pos d5]
  rw [if_neg d5]
  by_cases d6 : n = 49
  · rw [if_pos d6, if_neg d1, if_neg d2, if_neg d3, if_neg d4, if_neg d5, if_pos d6]
  · rw [if_neg d6, if_neg d1, if_neg d2, if_neg d3, if_neg d4, if_neg d5, if_neg d6]
/-- One that sets a flag, and the one that takes it away. -/
theorem on_off {a : At} (h : wf a) (x y : Int) (m n : Nat) (hx : x ≠ 0) (hy : y ≠ 0) (h1 : on x = m) (h2 : off y = n) (h3 : on y = 0) (m0 : m ≠ 0) (n0 : n ≠ 0) (hm : m < 256) (hn : n < 256) (e1 : m &&& (65535 - n) = 0) (e2 : (65535 - n) &&& m = 0) :
    plain (plain a x) y = plain a y ∧ plain (plain a y) x ≠ plain a y := by
  obtain ⟨f, hf, hl⟩ := fl_nat h
  have p1 : ∀ b : At, plain b x = { b with fl := orF b.fl m } := fun b => by
    unfold plain; rw [if_neg hx, h1, if_pos (by omega)]
  have p2 : ∀ b : At, plain b y = { b with fl := andnF b.fl n } := fun b => by
    unfold plain; rw [if_neg hy, h3, if_neg (by simp), h2, if_pos (by omega)]
  rw [p1, p2, p2, p1, hf]
  refine ⟨by simp only [andn_or f m n hl hm hn e1], fun e => ?_⟩
  have e' : orF (andnF f n) m = andnF f n := congrArg At.fl e
  exact or_andn_ne f m n hl hm hn m0 e2 e'

/-! ## The numbers of an attribute -/
def no (i : Nat) : Int := if i = 0 then 1 else if i = 1 then 2 else if i = 2 then 3 else if i = 3 then 4 else if i = 4 then 5 else if i = 5 then 7 else if i = 6 then 8 else 9
def numsF (f : Nat) (k : Nat) : List Int := ((List.range k).filter fun i => f / 2 ^ i % 2 == 1).map no
theorem numsF_succ (f k : Nat) : numsF f (k + 1) = numsF f k ++ if (f / 2 ^ k % 2 == 1) = true then [no k] else [] := by
  unfold numsF
  rw [List.range_succ, List.filter_append, List.map_append]
  by_cases h : (f / 2 ^ k % 2 == 1) = true
  · rw [if_pos h, List.filter_cons, if_pos h]; rfl
  · rw [if_neg h, List.filter_cons, if_neg h]; rfl
def colN (c g : Int) : List Int :=
  if c = 0 then [] else if c ≤ 8 then [29 + g + c] else if c ≤ 16 then [81 + g + c] else if c ≤ 256 then [38 + g, 5, c - 1]
  else [38 + g, 2, (c - 16777216) / 65536, (c - 16777216) / 256 % 256, (c - 16777216) % 256]
def numbers (a : At) : List Int := 0 :: numsF a.fl.toNat 8 ++ (colN a.fg 0 ++ colN a.bg 10)
theorem nums_go : ∀ f < 256, (∀ n ∈ numsF f 8, ¬(n = 38 ∨ n = 48)) ∧ go zero (numsF f 8) = ⟨0, 0, f⟩ := by decide +kernel
theorem on_zero (n : Int) (h : 30 ≤ n) : on n = 0 := by
  unfold on
  rw [if_neg (by omega), if_neg (by omega), if_neg (by omega), if_neg (by omega), if_neg (by omega), if_neg (by omega), if_neg (by omega), if_neg (by omega)]
theorem off_zero (n : Int) (h : 30 ≤ n) : off n = 0 := by
  unfold off
  rw [if_neg (by omega), if_neg (by omega), if_neg (by omega), if_neg (by omega), if_neg (by omega), if_neg (by omega), if_neg (by omega)]
theorem plain_hi (a : At) (n : Int) (h : 30 ≤ n) : plain a n = if 30 ≤ n ∧ n ≤ 37 then { a with fg := n - 29 } else if 40 ≤ n ∧ n ≤ 47 then { a with bg := n - 39 } else if 90 ≤ n ∧ n ≤ 97 then { a with fg := n - 81 } else if 100 ≤ n ∧ n ≤ 107 then { a with bg := n - 91 }
    else if n = 39 then { a with fg := 0 } else if n = 49 then { a with bg := 0 } else a := by
  unfold plain
  rw [if_neg (by omega), on_zero n h, if_neg (by simp), off_zero n h, if_neg (by simp)]
theorem follows_5 (x : Int) (l : List Int) : follows (5 :: x :: l) = some (if b255 x then x + 1 else 0, 2) := by simp [follows]
theorem follows_2 (r g b : Int) (l : List Int) : follows (2 :: r :: g :: b :: l) = some (if b255 r ∧ b255 g ∧ b255 b then 16777216 + r * 65536 + g * 256 + b else 0, 4) := by simp [follows]
theorem go_fg (a : At) (c : Int) (h0 : 0 ≤ c) (hc : colour c) (m : List Int) : go a (colN c 0 ++ m) = go (if c = 0 then a else { a with fg := c }) m := by
  unfold colour at hc
  unfold colN
  split
  · rfl
  split
  · rw [List.cons_append, go_plain _ _ _ (by omega)]
    rw [plain_hi _ _ (by omega), if_pos (by omega)]
    rw [show 29 + 0 + c - 29 = c from by omega]; rfl
  split
  · rw [List.cons_append, go_plain _ _ _ (by omega)]
    rw [plain_hi _ _ (by omega), if_neg (by omega), if_neg (by omega), if_pos (by omega)]
    rw [show 81 + 0 + c - 81 = c from by omega]; rfl
  split
  · show go a ((38 + 0) :: 5 :: (c - 1) :: m) = _
    rw [go_some a _ _ _ _ (.inl (by omega)) (follows_5 _ _), if_pos (by unfold b255; omega), show c - 1 + 1 = c from by omega]
    show go (setC a (38 + 0) c) m = _
    unfold setC
    rw [if_neg (by omega), if_pos (by omega)]
  · show go a ((38 + 0) :: 2 :: (c - 16777216) / 65536 :: (c - 16777216) / 256 % 256 :: (c - 16777216) % 256 :: m) = _
    rw [go_some a _ _ _ _ (.inl (by omega)) (follows_2 _ _ _ _), if_pos (by unfold b255; omega), show 16777216 + (c - 16777216) / 65536 * 65536 + (c - 16777216) / 256 % 256 * 256 + (c - 16777216) % 256 = c from by omega]
    show go (setC a (38 + 0) c) m = _
    unfold setC
    rw [if_neg (by omega), if_pos (by omega)]
theorem go_bg (a : At) (c : Int) (h0 : 0 ≤ c) (hc : colour c) (m : List Int) : go a (colN c 10 ++ m) = go (if c = 0 then a else { a with bg := c }) m := by
  unfold colour at hc
  unfold colN
  split
  · rfl
  split
  · rw [List.cons_append, go_plain _ _ _ (by omega)]
    rw [plain_hi _ _ (by omega), if_neg (by omega), if_pos (by omega)]
    rw [show 29 + 10 + c - 39 = c from by omega]; rfl
  split
  · rw [List.cons_append, go_plain _ _ _ (by omega)]
    rw [plain_hi _ _ (by omega), if_neg (by omega), if_neg (by omega), if_neg (by omega), if_pos (by omega)]
    rw [show 81 + 10 + c - 91 = c from by omega]; rfl
  split
  · show go a ((38 + 10) :: 5 :: (c - 1) :: m) = _
    rw [go_some a _ _ _ _ (.inr (by omega)) (follows_5 _ _), if_pos (by unfold b255; omega), show c - 1 + 1 = c from by omega]
    show go (setC a (38 + 10) c) m = _
    unfold setC
    rw [if_neg (by omega), if_neg (by omega)]
  · show go a ((38 + 10) :: 2 :: (c - 16777216) / 65536 :: (c - 16777216) / 256 % 256 :: (c - 16777216) % 256 :: m) = _
    rw [go_some a _ _ _ _ (.inr (by omega)) (follows_2 _ _ _ _), if_pos (by unfold b255; omega), show 16777216 + (c - 16777216) / 65536 * 65536 + (c - 16777216) / 256 % 256 * 256 + (c - 16777216) % 256 = c from by omega]
    show go (setC a (38 + 10) c) m = _
    unfold setC
    rw [if_neg (by omega), if_neg (by omega)]
theorem apply_numbers (b a : At) (h : wf a) (hm : may a) : apply b (numbers a) = a := by
  obtain ⟨f, hf, hl⟩ := fl_nat h
  obtain ⟨m1, m2, m3⟩ := hm
  obtain ⟨h1, h2, _⟩ := h
  obtain ⟨fg, bg, fl⟩ := a
  simp only at hf m1 m2 m3 h1 h2
  subst hf
  obtain ⟨n1, n2⟩ := nums_go f (by omega)
  unfold numbers
  rw [List.cons_append, apply_cons, go_plain _ _ _ (by decide)]
  show go (plain b 0) (numsF (f : Int).toNat 8 ++ (colN fg 0 ++ colN bg 10)) = _
  rw [show plain b 0 = zero from rfl, Int.toNat_natCast, go_append _ _ _ n1, n2, go_fg _ _ h1.1 m2, ← List.append_nil (colN bg 10), go_bg _ _ h2.1 m3, go_nil]
  by_cases c1 : fg = 0 <;> by_cases c2 : bg = 0 <;> simp [c1, c2]
end Go.Sgr
