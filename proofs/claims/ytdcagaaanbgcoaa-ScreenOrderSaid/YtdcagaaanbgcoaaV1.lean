/- Law 6: cells and rows, in plain Lean. -/
namespace Go.Cells
structure At where
  fg : Int
  bg : Int
  fl : Int
deriving DecidableEq
def At.z : At := ⟨0, 0, 0⟩
structure C where
  r : Int
  comb : List Int
  w : Int
  a : At
deriving DecidableEq
def bC (a : At) : C := ⟨32, [], 0, a⟩
def grC (a : At) : At := ⟨0, a.bg, 0⟩
def mayC (x : Int) : Prop := 32 ≤ x ∧ x ≤ 1114111 ∧ (x < 55296 ∨ 57343 < x)
instance (x : Int) : Decidable (mayC x) := inferInstanceAs (Decidable (32 ≤ x ∧ x ≤ 1114111 ∧ (x < 55296 ∨ 57343 < x)))
/-! ## Halves stand side by side -/
inductive Ok : List C → Prop
  | nil : Ok []
  | one {c : C} {l : List C} : c.w = 0 → mayC c.r → c.comb.length ≤ 4 → Ok l → Ok (c :: l)
  | two {c d : C} {l : List C} : c.w = 1 → d.w = 2 → mayC c.r → c.comb.length ≤ 4 → d.r = 0 → d.comb = [] → c.a = d.a → Ok l → Ok (c :: d :: l)
theorem Ok.app {l m : List C} (h : Ok l) (k : Ok m) : Ok (l ++ m) := by
  induction h with
  | nil => exact k
  | one h1 h2 h3 _ ih => exact .one h1 h2 h3 ih
  | two h1 h2 h3 h4 h5 h6 h7 _ ih => exact .two h1 h2 h3 h4 h5 h6 h7 ih
theorem Ok.bl {l : List C} (a : At) (h : Ok l) : Ok (bC a :: l) := .one rfl (by show mayC 32; decide) (Nat.zero_le _) h
theorem Ok.blanks (n : Nat) (a : At) : Ok (List.replicate n (bC a)) := by
  induction n with
  | zero => exact .nil
  | succ n ih => rw [List.replicate_succ]; exact .bl a ih
/-- A left half, a right one. -/
structure LR (c d : C) : Prop where
  cw : c.w = 1
  dw : d.w = 2
  r : mayC c.r
  m : c.comb.length ≤ 4
  dr : d.r = 0
  dm : d.comb = []
  a : c.a = d.a
/-- A place parts a row between two cells, or within a wide one. -/
theorem Ok.cut {l : List C} (h : Ok l) : ∀ k, (Ok (l.take k) ∧ Ok (l.drop k)) ∨ ∃ A c d B, l.take k = A ++ [c] ∧ l.drop k = d :: B ∧ Ok A ∧ Ok B ∧ LR c d := by
  induction h with
  | nil => exact fun k => .inl ⟨by simp [Ok.nil], by simp [Ok.nil]⟩
  | @one c l h1 h2 h3 hl ih =>
    intro k
    cases k with
    | zero => exact .inl ⟨.nil, .one h1 h2 h3 hl⟩
    | succ k =>
      rw [List.take_succ_cons, List.drop_succ_cons]
      rcases ih k with ⟨p, q⟩ | ⟨A, x, y, B, e1, e2, o1, o2, lr⟩
      · exact .inl ⟨.one h1 h2 h3 p, q⟩
      · exact .inr ⟨c :: A, x, y, B, by rw [e1]; rfl, e2, .one h1 h2 h3 o1, o2, lr⟩
  | @two c d l h1 h2 h3 h4 h5 h6 h7 hl ih =>
    intro k
    match k with
    | 0 => exact .inl ⟨.nil, .two h1 h2 h3 h4 h5 h6 h7 hl⟩
    | 1 => exact .inr ⟨[], c, d, l, rfl, rfl, .nil, hl, ⟨h1, h2, h3, h4, h5, h6, h7⟩⟩
    | k + 2 =>
      rw [List.take_succ_cons, List.take_succ_cons, List.drop_succ_cons, List.drop_succ_cons]
      rcases ih k with ⟨p, q⟩ | ⟨A, x, y, B, e1, e2, o1, o2, lr⟩
      · exact .inl ⟨.two h1 h2 h3 h4 h5 h6 h7 p, q⟩
      · exact .inr ⟨c :: d :: A, x, y, B, by rw [e1]; rfl, e2, .two h1 h2 h3 h4 h5 h6 h7 o1, o2, lr⟩
/-- The last cell, if it is a left half, is made bC; the first one, if it is a right half. -/
def fixL : List C → List C
  | [] => []
  | [c] => [if c.w = 1 then bC c.a else c]
  | c :: d :: l => c :: fixL (d :: l)
def fixR : List C → List C
  | [] => []
  | c :: l => (if c.w = 2 then bC c.a else c) :: l
theorem fixL_snoc : ∀ (A : List C) (c : C), fixL (A ++ [c]) = A ++ [if c.w = 1 then bC c.a else c]
  | [], c => rfl
  | [a], c => rfl
  | a :: b :: A, c => by
    have := fixL_snoc (b :: A) c
    simp only [List.cons_append] at this ⊢
    rw [fixL, this]
theorem fixL_length : ∀ (A : List C), (fixL A).length = A.length
  | [] => rfl
  | [_] => rfl
  | a :: b :: A => by rw [fixL, List.length_cons, fixL_length (b :: A)]; rfl
theorem fixR_length (A : List C) : (fixR A).length = A.length := by cases A <;> rfl
theorem Ok.last {A : List C} (h : Ok A) : fixL A = A := by
  induction h with
  | nil => rfl
  | @one c l h1 h2 h3 hl ih =>
    cases l with
    | nil => simp [fixL, h1]
    | cons x l => rw [fixL, ih]
  | @two c d l h1 h2 h3 h4 h5 h6 h7 hl ih =>
    cases l with
    | nil => simp [fixL, h2]
    | cons x l => rw [fixL, fixL, ih]
theorem Ok.first {A : List C} (h : Ok A) : fixR A = A := by
  cases h with
  | nil => rfl
  | one h1 => simp [fixR, h1]
  | two h1 => simp [fixR, h1]
theorem Ok.head_w {c : C} {l : List C} (h : Ok (c :: l)) : c.w ≠ 2 := by
  cases h with
  | one h1 => omega
  | two h1 => omega
theorem Ok.fix {l : List C} (h : Ok l) (k : Nat) : Ok (fixL (l.take k)) ∧ Ok (fixR (l.drop k)) := by
  rcases h.cut k with ⟨p, q⟩ | ⟨A, c, d, B, e1, e2, o1, o2, lr⟩
  · rw [p.last, q.first]; exact ⟨p, q⟩
  · rw [e1, e2, fixL_snoc, if_pos lr.cw, fixR, if_pos lr.dw]
    exact ⟨o1.app (.bl _ .nil), .bl _ o2⟩
theorem Ok.take {l : List C} (h : Ok l) (k : Nat) : Ok (fixL (l.take k)) := (h.fix k).1
/-! ## partC, mend -/
def partC (l : List C) (k : Int) : List C :=
  if 0 < k ∧ k < l.length then
    (match l[k.toNat - 1]?, l[k.toNat]? with
    | some c, some d => if d.w = 2 then (l.set (k.toNat - 1) (bC c.a)).set k.toNat (bC d.a) else l
    | _, _ => l)
  else l
theorem set_app_cons (A : List C) (c x : C) (B : List C) : (A ++ c :: B).set A.length x = A ++ x :: B := by simp
theorem part_ok {l : List C} (h : Ok l) (k : Nat) : partC l k = fixL (l.take k) ++ fixR (l.drop k) := by
  rcases h.cut k with ⟨p, q⟩ | ⟨A, c, d, B, e1, e2, o1, o2, lr⟩
  · rw [p.last, q.first, List.take_append_drop]
    unfold partC
    split
    · rename_i hk
      have hk2 : k < l.length := by omega
      rw [show ((k : Int).toNat) = k from Int.toNat_natCast k]
      rw [List.getElem?_eq_getElem (show k - 1 < l.length by omega), List.getElem?_eq_getElem hk2]
      have hw : l[k].w ≠ 2 := by
        have e : l.drop k = l[k] :: l.drop (k + 1) := List.drop_eq_getElem_cons hk2
        rw [e] at q
        exact q.head_w
      simp [hw]
    · rfl
  · have hl : l = A ++ c :: d :: B := by rw [← List.take_append_drop k l, e1, e2]; simp
    have hk : k = A.length + 1 := by
      have h1 : (l.take k).length = A.length + 1 := by rw [e1]; simp
      have h2 : (l.drop k).length = B.length + 1 := by rw [e2]; simp
      rw [List.length_take] at h1
      rw [List.length_drop] at h2
      omega
    subst hl
    subst hk
    unfold partC
    rw [if_pos (by simp; omega)]
    rw [show (((A.length + 1 : Nat) : Int).toNat) = A.length + 1 from Int.toNat_natCast _, Nat.add_sub_cancel]
    have g1 : (A ++ c :: d :: B)[A.length]? = some c := by simp
    have g2 : (A ++ c :: d :: B)[A.length + 1]? = some d := by
      rw [List.getElem?_append_right (by omega)]
      simp
    rw [g1, g2]
    simp only
    rw [if_pos lr.dw, e1, e2, fixL_snoc, if_pos lr.cw, fixR, if_pos lr.dw, set_app_cons]
    have := set_app_cons (A ++ [bC c.a]) d (bC d.a) B
    simp only [List.length_append, List.length_cons, List.length_nil, List.append_assoc, List.cons_append, List.nil_append] at this ⊢
    exact this
def md : Int → List C → List C
  | _, [] => []
  | p, c :: l =>
    let c' := if (c.w = 1 ∧ (l.head?.map (·.w)) ≠ some 2) ∨ (c.w = 2 ∧ p ≠ 1) then bC c.a else c
    c' :: md c'.w l
theorem md_length : ∀ (p : Int) (l : List C), (md p l).length = l.length
  | _, [] => rfl
  | p, c :: l => by unfold md; simp only [List.length_cons]; rw [md_length]
theorem md_ok {A : List C} (h : Ok A) : ∀ (p : Int) (l : List C), ∃ q, q ≠ 1 ∧ md p (A ++ l) = A ++ md (if A = [] then p else q) l := by
  induction h with
  | nil => exact fun p l => ⟨0, by decide, by simp⟩
  | @one c A h1 h2 h3 hl ih =>
    intro p l
    obtain ⟨q, hq, e⟩ := ih c.w l
    refine ⟨if A = [] then c.w else q, by split <;> omega, ?_⟩
    have : md p (c :: A ++ l) = c :: md c.w (A ++ l) := by
      rw [List.cons_append, md]
      simp [h1]
    rw [this, e]
    simp
  | @two c d A h1 h2 h3 h4 h5 h6 h7 hl ih =>
    intro p l
    obtain ⟨q, hq, e⟩ := ih d.w l
    refine ⟨if A = [] then d.w else q, by split <;> omega, ?_⟩
    have : md p (c :: d :: A ++ l) = c :: d :: md d.w (A ++ l) := by
      rw [List.cons_append, List.cons_append, md]
      simp only [List.head?_cons, Option.map_some, h2, ne_eq, not_true_eq_false, and_false, h1, false_or]
      rw [if_neg (by omega), h1, md]
      simp [h2]
    rw [this, e]
    simp
theorem md_all {A : List C} (h : Ok A) (p : Int) : md p A = A := by
  obtain ⟨q, _, e⟩ := md_ok h p []
  rw [List.append_nil] at e
  rw [e, md, List.append_nil]
/-- Behind whole cells: the end of a row that was cut. -/
theorem md_fixL {l : List C} (h : Ok l) (k : Nat) {A : List C} (hA : Ok A) (p : Int) : md p (A ++ l.take k) = A ++ fixL (l.take k) := by
  rcases h.cut k with ⟨o, _⟩ | ⟨B, c, d, D, e1, e2, o1, o2, lr⟩
  · rw [o.last]; exact md_all (hA.app o) p
  · rw [e1, fixL_snoc, if_pos lr.cw, ← List.append_assoc, ← List.append_assoc]
    obtain ⟨q, _, e⟩ := md_ok (hA.app o1) p [c]
    rw [e, md]
    simp [lr.cw, md]
end Go.Cells
