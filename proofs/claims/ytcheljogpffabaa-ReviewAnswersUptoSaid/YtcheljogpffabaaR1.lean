/- Law 21: a review's place, as plain lists. -/
import Derived.Test.YtcheljogpffabaaW19
import Derived.Test.YtcheljogpffabaaW20
import Derived.Test.YtcheljogpffabaaW23
namespace Go.Rev
open Go.Words Go.Proofs.Ytcheljogpffabaa
/-- A grid: its rows, their ids, the cursor. -/
structure Gd where
  rows : List (List Cl)
  ids : List Int
  cy : Int
  cx : Int
def nul : Cl := ⟨0, [], 0⟩
def Gd.wd (g : Gd) (y x : Nat) : Int := ((g.rows.getD y []).getD x nul).wide
def Gd.row (g : Gd) (y : Nat) : List Cl := g.rows.getD y []
def Gd.n (g : Gd) : Nat := g.rows.length
def Gd.m (g : Gd) : Nat := (g.rows.getD 0 []).length
def Gd.bl (g : Gd) (y : Nat) : List Bool := (g.row y).map isB
def mayG (g : Gd) : Bool := decide (g.rows.length ≠ 0) && (decide (g.ids.length = g.rows.length) && (decide (g.m ≠ 0) && g.rows.all fun r => decide (r.length = g.m)))
/-- A number brought to 0 .. k - 1. -/
def clampN (p : Int) (k : Nat) : Nat := (min (max p 0) ((k : Int) - 1)).toNat
theorem clampN_lt (p : Int) {k : Nat} (h : 0 < k) : clampN p k < k := by unfold clampN; omega
theorem clampN_of {p k : Nat} (h : p < k) : clampN (p : Int) k = p := by unfold clampN; omega
def heldX (g : Gd) (y x : Nat) : Nat := if 0 < x ∧ g.wd y x = 2 ∧ g.wd y (x - 1) = 1 then x - 1 else x
theorem heldX_le (g : Gd) (y x : Nat) : heldX g y x ≤ x := by unfold heldX; split <;> omega
/-- A place held within a grid. -/
def heldP (g : Gd) (py px : Int) : Nat × Nat := (clampN py g.n, heldX g (clampN py g.n) (clampN px g.m))
def sizeP (g : Gd) (y x : Nat) : Nat := if g.wd y x = 1 ∧ x + 1 < g.m ∧ g.wd y (x + 1) = 2 then 2 else 1
/-- Where an id stands first. -/
def findId : List Int → Int → Option Nat
  | [], _ => none
  | a :: l, i => if a = i then some 0 else (findId l i).map (· + 1)
/-- The review's place: id, row, column. -/
structure Pl where
  id : Int
  y : Int
  x : Int
def holdP (g : Gd) (v : Pl) : Nat × Nat := heldP g (match findId g.ids v.id with | some i => (i : Int) | none => v.y) v.x
/-- The last word ahead, row by row upwards. -/
def leftW (g : Gd) : Nat → Int → Option (Nat × Nat)
  | 0, c => if 0 ≤ prevW (words (g.bl 0)) c then some (0, (prevW (words (g.bl 0)) c).toNat) else none
  | y + 1, c => if 0 ≤ prevW (words (g.bl (y + 1))) c then some (y + 1, (prevW (words (g.bl (y + 1))) c).toNat) else leftW g y g.m
/-- The next word, row by row downwards; k rows are left. -/
def rightW (g : Gd) : Nat → Nat → Int → Option (Nat × Nat)
  | 0, _, _ => none
  | k + 1, y, c => if 0 ≤ nextW (words (g.bl y)) c then some (y, (nextW (words (g.bl y)) c).toNat) else rightW g k (y + 1) (-1)
def endX (bl : List Bool) : Nat := trim bl - 1
/-- A command: where it leads; none: an edge. -/
def goTo (g : Gd) (y x : Nat) (c : Int) : Option (Nat × Nat) :=
  if c = 1 then (if x = 0 then none else some (heldP g y ((x : Int) - 1)))
  else if c = 2 then (if x + sizeP g y x < g.m then some (heldP g y ((x : Int) + sizeP g y x)) else none)
  else if c = 3 then (if y = 0 then none else some (heldP g ((y : Int) - 1) x))
  else if c = 4 then (if y + 1 < g.n then some (heldP g ((y : Int) + 1) x) else none)
  else if c = 5 then leftW g y x
  else if c = 6 then rightW g (g.n - y) y x
  else if c = 7 then some (heldP g y 0)
  else if c = 8 then some (heldP g y (endX (g.bl y)))
  else if c = 9 then some (heldP g 0 x)
  else if c = 10 then some (heldP g ((g.n : Int) - 1) x)
  else if c = 11 then some (heldP g g.cy g.cx)
  else some (y, x)
/-- What is said: 0 the cell, 1 the word, 2 the line. -/
def said (c : Int) : Nat := if c = 3 ∨ c = 4 ∨ c = 9 ∨ c = 10 ∨ c = 14 then 2 else if c = 5 ∨ c = 6 ∨ c = 13 then 1 else 0
structure An where
  y : Nat
  x : Nat
  f : Nat
  t : Nat
  text : List Int
  edge : Bool
def ans (g : Gd) (s : Nat) (y x : Nat) (e : Bool) : An :=
  if s = 2 then ⟨y, x, 0, g.m, rpart (g.row y) 0 (trim (g.bl y)), e⟩
  else match (if s = 1 then wordW (words (g.bl y)) x else none) with
    | some (a, b) => ⟨y, x, a, b, rpart (g.row y) a b, e⟩
    | none => ⟨y, x, x, x + sizeP g y x, rpart (g.row y) x ((x + sizeP g y x : Nat) : Int), e⟩
/-- The whole of a command, by a grid that may be reviewed. -/
def doR (g : Gd) (v : Pl) (c : Int) : Nat × Nat × Bool := match goTo g (holdP g v).1 (holdP g v).2 c with | some p => (p.1, p.2, false) | none => ((holdP g v).1, (holdP g v).2, true)
def doA (g : Gd) (v : Pl) (c : Int) : An := ans g (said c) (doR g v c).1 (doR g v c).2.1 (doR g v c).2.2
def Gd.id (g : Gd) (y : Nat) : Int := g.ids.getD y 0
def doV (g : Gd) (v : Pl) (c : Int) : Pl := ⟨g.id (doR g v c).1, (doR g v c).1, (doR g v c).2.1⟩
def holdV (g : Gd) (v : Pl) : Pl := ⟨g.id (holdP g v).1, (holdP g v).1, (holdP g v).2⟩
/-- The sizes of a grid that may be reviewed, and is looked at. -/
structure Fit (g : Gd) (n m : Nat) : Prop where
  n1 : 1 ≤ n
  n12 : n ≤ 12
  m1 : 1 ≤ m
  en : g.rows.length = n
  ei : g.ids.length = n
  em : ∀ r ∈ g.rows, r.length = m
  sz : ∀ r ∈ g.rows, size r ≤ 600
variable {g : Gd} {n m : Nat}
theorem len_le_size (l : List Cl) : l.length ≤ size l := by
  induction l with
  | nil => simp [size]
  | cons a l ih => simp only [size, List.map_cons, List.sum_cons, List.length_cons] at *; omega
theorem Fit.row_mem (h : Fit g n m) {y : Nat} (hy : y < n) : g.rows[y]? = some (g.row y) ∧ g.row y ∈ g.rows := by
  have hy' : y < g.rows.length := by rw [h.en]; exact hy
  have e : g.rows[y]? = some (g.row y) := by unfold Gd.row; simp [hy']
  exact ⟨e, List.mem_of_getElem? e⟩
theorem Fit.row_len (h : Fit g n m) {y : Nat} (hy : y < n) : (g.row y).length = m := h.em _ (h.row_mem hy).2
theorem Fit.row_size (h : Fit g n m) {y : Nat} (hy : y < n) : size (g.row y) ≤ 600 := h.sz _ (h.row_mem hy).2
theorem Fit.m600 (h : Fit g n m) : m ≤ 600 := by have := len_le_size (g.row 0); rw [h.row_len h.n1] at this; exact Nat.le_trans this (h.row_size h.n1)
theorem Fit.gn (h : Fit g n m) : g.n = n := h.en
theorem Fit.gm (h : Fit g n m) : g.m = m := h.row_len h.n1
theorem Fit.bl_len (h : Fit g n m) {y : Nat} (hy : y < n) : (g.bl y).length = m := by unfold Gd.bl; rw [List.length_map, h.row_len hy]
theorem Fit.may (h : Fit g n m) : mayG g = true := by
  unfold mayG
  have h1 := h.n1
  have h2 := h.m1
  simp only [h.en, h.ei, h.gm, Bool.and_eq_true, decide_eq_true_eq, List.all_eq_true]
  exact ⟨by omega, trivial, by omega, h.em⟩
theorem fit_of (h : mayG g = true) (h2 : g.rows.length ≤ 12) (h3 : ∀ r ∈ g.rows, size r ≤ 600) : Fit g g.rows.length g.m := by
  unfold mayG at h
  simp only [Bool.and_eq_true, decide_eq_true_eq, List.all_eq_true] at h
  obtain ⟨a, b, c, d⟩ := h
  exact ⟨by omega, h2, by omega, rfl, b, d, h3⟩
theorem Fit.held_lt (h : Fit g n m) (py px : Int) : (heldP g py px).1 < n ∧ (heldP g py px).2 < m := by
  unfold heldP
  rw [h.gn, h.gm]
  exact ⟨clampN_lt _ h.n1, Nat.lt_of_le_of_lt (heldX_le _ _ _) (clampN_lt _ h.m1)⟩
theorem find_lt : ∀ {l : List Int} {i : Int} {k : Nat}, findId l i = some k → k < l.length ∧ l[k]? = some i ∧ ∀ j, j < k → l[j]? ≠ some i
  | [], _, _, h => by simp [findId] at h
  | a :: l, i, k, h => by
    unfold findId at h
    split at h
    · rename_i e
      cases h
      exact ⟨by simp, by simp [e], by simp⟩
    · rename_i e
      cases hf : findId l i with
      | none => rw [hf] at h; cases h
      | some q =>
        rw [hf] at h
        simp at h
        subst h
        obtain ⟨h1, h2, h3⟩ := find_lt hf
        refine ⟨by simp [h1], by simpa using h2, fun j hj => ?_⟩
        cases j with
        | zero => simpa using e
        | succ j => simpa using h3 j (by omega)
theorem find_none : ∀ {l : List Int} {i : Int}, findId l i = none → ∀ j : Nat, l[j]? ≠ some i
  | [], _, _, j => by simp
  | a :: l, i, h, j => by
    unfold findId at h
    split at h
    · cases h
    · rename_i e
      cases hf : findId l i with
      | some q => rw [hf] at h; cases h
      | none =>
        cases j with
        | zero => simpa using e
        | succ j => simpa using find_none hf j
theorem find_at {l : List Int} {i : Int} {k : Nat} (h1 : l[k]? = some i) (h2 : ∀ j, j < k → l[j]? ≠ some i) : findId l i = some k := by
  cases hf : findId l i with
  | none => exact absurd h1 (find_none hf k)
  | some q =>
    obtain ⟨_, e2, e3⟩ := find_lt hf
    by_cases hq : q < k
    · exact absurd e2 (h2 q hq)
    · by_cases hk : k < q
      · exact absurd h1 (e3 k hk)
      · rw [show q = k by omega]
theorem Fit.hold_lt (h : Fit g n m) (v : Pl) : (holdP g v).1 < n ∧ (holdP g v).2 < m := h.held_lt _ _
theorem prev_val (ws : List (Nat × Nat)) (c : Int) : prevW ws c = -1 ∨ ∃ x ∈ ws, prevW ws c = x.1 := by
  unfold prevW
  have : ∀ (l : List (Nat × Nat)) (s : Int), (s = -1 ∨ ∃ x ∈ ws, s = (x.1 : Int)) → (∀ x ∈ l, x ∈ ws) → l.foldl (prevStep c) s = -1 ∨ ∃ x ∈ ws, l.foldl (prevStep c) s = x.1 := by
    intro l
    induction l with
    | nil => exact fun s h _ => h
    | cons a l ih =>
      intro s h hm
      rw [List.foldl_cons]
      refine ih _ ?_ (fun x hx => hm x (List.mem_cons_of_mem _ hx))
      unfold prevStep
      split
      · exact .inr ⟨a, hm a List.mem_cons_self, rfl⟩
      · exact h
  exact this ws (-1) (.inl rfl) (fun _ h => h)
theorem next_val (ws : List (Nat × Nat)) (c : Int) : nextW ws c = -1 ∨ ∃ x ∈ ws, nextW ws c = x.1 := by
  unfold nextW
  cases h : ws.find? (fun x => decide (c < (x.1 : Int))) with
  | none => exact .inl rfl
  | some x => exact .inr ⟨x, List.mem_of_find?_eq_some h, rfl⟩
theorem beg_lt {bl : List Bool} {v : Int} (h : v = -1 ∨ ∃ x ∈ words bl, v = (x.1 : Int)) (h0 : 0 ≤ v) : v.toNat < bl.length := by
  rcases h with h | ⟨x, hx, h⟩
  · omega
  · obtain ⟨_, h1, h2⟩ := (ws_ok bl).each x hx
    omega
theorem Fit.left_lt (h : Fit g n m) : ∀ (y : Nat) (c : Int) (p : Nat × Nat), y < n → leftW g y c = some p → p.1 < n ∧ p.2 < m
  | 0, c, p, hy, e => by
    unfold leftW at e
    split at e
    · rename_i h0
      cases e
      exact ⟨hy, by rw [← h.bl_len hy]; exact beg_lt (prev_val _ _) h0⟩
    · cases e
  | y + 1, c, p, hy, e => by
    unfold leftW at e
    split at e
    · rename_i h0
      cases e
      exact ⟨hy, by rw [← h.bl_len hy]; exact beg_lt (prev_val _ _) h0⟩
    · exact h.left_lt y _ p (by omega) e
theorem Fit.right_lt (h : Fit g n m) : ∀ (k y : Nat) (c : Int) (p : Nat × Nat), y + k = n → rightW g k y c = some p → p.1 < n ∧ p.2 < m
  | 0, y, c, p, hy, e => by cases e
  | k + 1, y, c, p, hy, e => by
    unfold rightW at e
    split at e
    · rename_i h0
      cases e
      exact ⟨by show y < n; omega, by rw [← h.bl_len (show y < n by omega)]; exact beg_lt (next_val _ _) h0⟩
    · exact h.right_lt k (y + 1) _ p (by omega) e
theorem Fit.goTo_lt (h : Fit g n m) {y x : Nat} (hy : y < n) (hx : x < m) {c : Int} {p : Nat × Nat} (e : goTo g y x c = some p) : p.1 < n ∧ p.2 < m := by
  unfold goTo at e
  repeat' split at e
  all_goals first
    | (cases e; exact h.held_lt _ _)
    | (cases e; done)
    | (cases e; exact ⟨hy, hx⟩)
    | exact h.left_lt _ _ _ hy e
    | exact h.right_lt _ _ _ _ (by rw [h.gn]; omega) e
theorem Fit.do_lt (h : Fit g n m) (v : Pl) (c : Int) : (doR g v c).1 < n ∧ (doR g v c).2.1 < m := by
  unfold doR
  have h0 := h.hold_lt v
  split
  · rename_i p hp
    exact h.goTo_lt h0.1 h0.2 hp
  · exact h0
end Go.Rev
