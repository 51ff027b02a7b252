/-
  A small logic of memory: what is known of a world's heap, as a list of parts that do not overlap (whatever is not named may be there too).
-/
import Derived.WalkKit
import Derived.WalkSpells
import Derived.WalkLawsBesides
import Derived.BigQuiet
import Derived.Deep.QuietTactic
import Derived.Lib.Hide
import Derived.Maps.RangeWalk
import Derived.StillTailTactics
namespace Go.Mem
open Go.RowKit

/-- A part of a heap. -/
abbrev Hp := Nat → Option Obj
/-- What may be said of a part. -/
abbrev HProp := Hp → Prop

def Hp.sub (h k : Hp) : Prop := ∀ b o, h b = some o → k b = some o
def Hp.apart (h k : Hp) : Prop := ∀ b, h b = none ∨ k b = none

theorem Hp.sub_refl (h : Hp) : h.sub h := fun _ _ e => e
theorem Hp.sub_trans {a b c : Hp} (h : a.sub b) (k : b.sub c) : a.sub c := fun x o e => k x o (h x o e)
theorem Hp.apart_symm {a b : Hp} (h : a.apart b) : b.apart a := fun x => (h x).symm
theorem Hp.apart_sub {a b a' b' : Hp} (h : a.apart b) (ha : a'.sub a) (hb : b'.sub b) : a'.apart b' := fun x => by
  rcases h x with e | e
  · left
    cases hx : a' x with
    | none => rfl
    | some o => rw [ha x o hx] at e; cases e
  · right
    cases hx : b' x with
    | none => rfl
    | some o => rw [hb x o hx] at e; cases e
def Hp.join (a b : Hp) : Hp := fun x => match a x with | some o => some o | none => b x
theorem Hp.sub_join_left (a b : Hp) : a.sub (a.join b) := fun x o e => by simp [Hp.join, e]
theorem Hp.sub_join_right {a b : Hp} (h : a.apart b) : b.sub (a.join b) := fun x o e => by
  rcases h x with e' | e'
  · simp [Hp.join, e', e]
  · rw [e'] at e; cases e
theorem Hp.join_sub {a b c : Hp} (h : a.sub c) (k : b.sub c) : (a.join b).sub c := fun x o e => by
  unfold Hp.join at e
  split at e
  · rename_i o' he; cases e; exact h x _ he
  · exact k x o e
theorem Hp.apart_join {a b c : Hp} (h : a.apart c) (k : b.apart c) : (a.join b).apart c := fun x => by
  rcases h x with e | e
  · rcases k x with e' | e'
    · left; simp [Hp.join, e, e']
    · right; exact e'
  · right; exact e

def holds : List HProp → Hp → Prop
  | [], _ => True
  | A :: H, h => ∃ h1 h2, Hp.apart h1 h2 ∧ Hp.sub h1 h ∧ Hp.sub h2 h ∧ A h1 ∧ holds H h2

theorem holds_sub {H : List HProp} {h k : Hp} (s : h.sub k) (hh : holds H h) : holds H k := by
  cases H with
  | nil => trivial
  | cons A H =>
    obtain ⟨h1, h2, ap, s1, s2, a, r⟩ := hh
    exact ⟨h1, h2, ap, Hp.sub_trans s1 s, Hp.sub_trans s2 s, a, r⟩

theorem holds_swap {A B : HProp} {H : List HProp} {h : Hp} (hh : holds (A :: B :: H) h) : holds (B :: A :: H) h := by
  obtain ⟨h1, h2, ap, s1, s2, a, k1, k2, ap', t1, t2, b, r⟩ := hh
  have e1 : Hp.apart h1 k2 := Hp.apart_sub ap (Hp.sub_refl _) t2
  refine ⟨k1, Hp.join h1 k2, ?_, Hp.sub_trans t1 s2, Hp.join_sub s1 (Hp.sub_trans t2 s2), b, h1, k2, e1, Hp.sub_join_left _ _, Hp.sub_join_right e1, a, r⟩
  exact Hp.apart_symm (Hp.apart_join (Hp.apart_sub ap (Hp.sub_refl _) t1) (Hp.apart_symm ap'))

theorem holds_tail {A : HProp} {H H' : List HProp} (f : ∀ h, holds H h → holds H' h) {h : Hp} (hh : holds (A :: H) h) : holds (A :: H') h := by
  obtain ⟨h1, h2, ap, s1, s2, a, r⟩ := hh
  exact ⟨h1, h2, ap, s1, s2, a, f _ r⟩

theorem holds_perm {H H' : List HProp} (p : H.Perm H') : ∀ {h : Hp}, holds H h → holds H' h := by
  induction p with
  | nil => exact fun hh => hh
  | cons A _ ih => exact fun hh => holds_tail (fun _ => ih) hh
  | swap A B H => exact fun hh => holds_swap hh
  | trans _ _ ih1 ih2 => exact fun hh => ih2 (ih1 hh)

theorem holds_drop {A : HProp} {H : List HProp} {h : Hp} (hh : holds (A :: H) h) : holds H h := by
  obtain ⟨h1, h2, _, _, s2, _, r⟩ := hh
  exact holds_sub s2 r

theorem holds_append_left {H G : List HProp} : ∀ {h : Hp}, holds (H ++ G) h → holds H h := by
  induction H with
  | nil => intro h _; trivial
  | cons A H ih => exact fun hh => holds_tail (fun _ => ih) hh

/-- The heap, and what a call must leave alone besides: as in W. -/
def sat (W : World) (H : List HProp) (w : World) : Prop :=
  w.os = W.os ∧ w.tape = W.tape ∧ (w.output = W.output ∧ W.heap.size ≤ w.heap.size) ∧ holds H (fun b => w.heap[b]?)

/-- Block b holds o. -/
def blk (b : Nat) (o : Obj) : HProp := fun h => h b = some o
/-- Everything is there that w has. -/
def old (w : World) : HProp := fun h => ∀ b, b < w.heap.size → h b = w.heap[b]?
/-- A fact that is of no memory. -/
def pur (p : Prop) : HProp := fun _ => p

/-- Part i ahead. -/
def bring (i : Nat) (H : List HProp) : List HProp := H.getD i (pur True) :: H.eraseIdx i

theorem holds_true {H : List HProp} {h : Hp} (hh : holds H h) : holds (pur True :: H) h :=
  ⟨fun _ => none, h, fun _ => .inl rfl, fun _ _ e => by simp at e, Hp.sub_refl _, trivial, hh⟩

theorem holds_bring : ∀ (i : Nat) {H : List HProp} {h : Hp}, holds H h → holds (bring i H) h
  | _, [], _, hh => holds_true hh
  | 0, _ :: _, _, hh => hh
  | i + 1, A :: H, h, hh => by
    have h1 : holds (A :: bring i H) h := holds_tail (fun _ => holds_bring i) hh
    exact holds_swap h1

variable {W w : World} {H : List HProp}

theorem sat.perm {H' : List HProp} (hs : sat W H w) (p : H.Perm H') : sat W H' w := ⟨hs.1, hs.2.1, hs.2.2.1, holds_perm p hs.2.2.2⟩
theorem sat.bring (i : Nat) (hs : sat W H w) : sat W (bring i H) w := ⟨hs.1, hs.2.1, hs.2.2.1, holds_bring i hs.2.2.2⟩
theorem sat.drop {A : HProp} (hs : sat W (A :: H) w) : sat W H w := ⟨hs.1, hs.2.1, hs.2.2.1, holds_drop hs.2.2.2⟩
theorem sat.swap {A B : HProp} (hs : sat W (A :: B :: H) w) : sat W (B :: A :: H) w := ⟨hs.1, hs.2.1, hs.2.2.1, holds_swap hs.2.2.2⟩
theorem sat.tail {A : HProp} {H' : List HProp} (f : ∀ h, holds H h → holds H' h) (hs : sat W (A :: H) w) : sat W (A :: H') w := ⟨hs.1, hs.2.1, hs.2.2.1, holds_tail f hs.2.2.2⟩
theorem sat.only {G : List HProp} (hs : sat W (H ++ G) w) : sat W H w := ⟨hs.1, hs.2.1, hs.2.2.1, holds_append_left hs.2.2.2⟩
theorem sat.imp {A B : HProp} (hs : sat W (A :: H) w) (f : ∀ h, A h → B h) : sat W (B :: H) w := by
  obtain ⟨h1, h2, ap, s1, s2, a, r⟩ := hs.2.2.2
  exact ⟨hs.1, hs.2.1, hs.2.2.1, h1, h2, ap, s1, s2, f _ a, r⟩
theorem sat.pure {p : Prop} (hs : sat W (pur p :: H) w) : p := by
  obtain ⟨h1, h2, ap, s1, s2, a, r⟩ := hs.2.2.2
  exact a
theorem sat.ex {α : Type} {A : α → HProp} (hs : sat W ((fun h => ∃ x, A x h) :: H) w) : ∃ x, sat W (A x :: H) w := by
  obtain ⟨h1, h2, ap, s1, s2, ⟨x, a⟩, r⟩ := hs.2.2.2
  exact ⟨x, hs.1, hs.2.1, hs.2.2.1, h1, h2, ap, s1, s2, a, r⟩
theorem sat.and_pure {p : Prop} {A : HProp} (hs : sat W ((fun h => p ∧ A h) :: H) w) : p ∧ sat W (A :: H) w := by
  obtain ⟨h1, h2, ap, s1, s2, ⟨x, a⟩, r⟩ := hs.2.2.2
  exact ⟨x, hs.1, hs.2.1, hs.2.2.1, h1, h2, ap, s1, s2, a, r⟩

theorem sat.heap {b : Nat} {o : Obj} (hs : sat W (blk b o :: H) w) : w.heap[b]? = some o := by
  obtain ⟨h1, h2, ap, s1, s2, a, r⟩ := hs.2.2.2
  exact s1 b o a
theorem sat.lt {b : Nat} {o : Obj} (hs : sat W (blk b o :: H) w) : b < w.heap.size := (Array.getElem?_eq_some_iff.1 hs.heap).1
theorem sat.ne {b b' : Nat} {o o' : Obj} (hs : sat W (blk b o :: blk b' o' :: H) w) : b ≠ b' := by
  obtain ⟨h1, h2, ap, s1, s2, a, k1, k2, ap', t1, t2, a', r⟩ := hs.2.2.2
  rintro rfl
  rcases ap b with e | e
  · rw [show h1 b = some o from a] at e; cases e
  · rw [t1 b o' a'] at e; cases e
theorem sat.cell {b i : Nat} {c : Array Value} {T : TypeId} {fr : Nat × Nat} {v : Value} (hs : sat W (blk b (.cells c T fr) :: H) w) (h : c[i]? = some v) : w.cell? ⟨b, i, none⟩ = some v := by
  simp [World.cell?, hs.heap, h]
theorem sat.frozen {b i : Nat} {c : Array Value} {T : TypeId} (hs : sat W (blk b (.cells c T (0, 0)) :: H) w) : w.frozen? ⟨b, i, none⟩ = false := by
  simp [World.frozen?, hs.heap]

/-- All cells of a block, for the walk. -/
theorem sat.cells {b : Nat} {c : Array Value} {T : TypeId} {fr : Nat × Nat} (hs : sat W (blk b (.cells c T fr) :: H) w) : ∀ i, w.cell? ⟨b, i, none⟩ = c[i]? := fun i => by
  simp [World.cell?, hs.heap]
theorem sat.fr {b : Nat} {c : Array Value} {T : TypeId} (hs : sat W (blk b (.cells c T (0, 0)) :: H) w) : ∀ i, w.frozen? ⟨b, i, none⟩ = false := fun _ => hs.frozen

/-- Another world with the same heap (a draw). -/
theorem sat.like {w' : World} (hs : sat W H w) (h1 : w'.os = w.os) (h2 : w'.tape = w.tape) (h3 : w'.output = w.output) (h4 : w'.heap = w.heap) : sat W H w' :=
  ⟨h1.trans hs.1, h2.trans hs.2.1, ⟨h3.trans hs.2.2.1.1, by rw [h4]; exact hs.2.2.1.2⟩, by rw [h4]; exact hs.2.2.2⟩
theorem sat.drew (hs : sat W H w) : sat W H w.drew := hs.like rfl rfl rfl rfl
theorem sat.drewN (hs : sat W H w) (n : Nat) : sat W H (w.drewN n) := hs.like rfl rfl rfl rfl

/-- The world itself as the ground; and back. -/
theorem sat.base (hs : sat W H w) : sat w H w := ⟨rfl, rfl, ⟨rfl, Nat.le_refl _⟩, hs.2.2.2⟩
theorem sat.rebase {w' : World} {H' : List HProp} (h0 : sat W H w) (h1 : sat w H' w') : sat W H' w' :=
  ⟨h1.1.trans h0.1, h1.2.1.trans h0.2.1, ⟨h1.2.2.1.1.trans h0.2.2.1.1, Nat.le_trans h0.2.2.1.2 h1.2.2.1.2⟩, h1.2.2.2⟩
/-- A block is turned. -/
theorem sat.turn {w' : World} {b : Nat} {o o' : Obj} (hs : sat W (blk b o :: H) w) (h1 : w'.os = w.os) (h2 : w'.tape = w.tape) (h3 : w'.output = w.output)
    (h4 : w'.heap[b]? = some o') (h5 : ∀ k, k < w.heap.size → k ≠ b → w'.heap[k]? = w.heap[k]?) : sat W (blk b o' :: H) w' := by
  have hsz : w.heap.size ≤ w'.heap.size := by
    rcases Nat.eq_zero_or_pos w.heap.size with h | h
    · omega
    · by_cases hb : w.heap.size - 1 = b
      · have := (Array.getElem?_eq_some_iff.1 h4).1
        omega
      · have e := h5 (w.heap.size - 1) (by omega) hb
        have hlt : w.heap.size - 1 < w.heap.size := by omega
        rw [Array.getElem?_eq_getElem hlt] at e
        have := (Array.getElem?_eq_some_iff.1 e).1
        omega
  refine ⟨h1.trans hs.1, h2.trans hs.2.1, ⟨h3.trans hs.2.2.1.1, Nat.le_trans hs.2.2.1.2 hsz⟩, ?_⟩
  obtain ⟨g1, g2, ap, s1, s2, a, r⟩ := hs.2.2.2
  refine ⟨fun x => if x = b then some o' else none, g2, fun x => ?_, fun x o e => ?_, fun x o e => ?_, by simp [blk], r⟩
  · by_cases hx : x = b
    · subst hx
      right
      rcases ap x with e | e
      · rw [show g1 x = some _ from a] at e; cases e
      · exact e
    · left; simp [hx]
  · by_cases hx : x = b
    · subst hx; simp at e; subst e; exact h4
    · simp [hx] at e
  · have hw := s2 x o e
    have hlt : x < w.heap.size := (Array.getElem?_eq_some_iff.1 hw).1
    have hx : x ≠ b := by
      rintro rfl
      rcases ap x with e' | e'
      · rw [show g1 x = some _ from a] at e'; cases e'
      · rw [e'] at e; cases e
    exact (h5 x hlt hx).trans hw

theorem setCell_heap_same (w : World) (b i : Nat) (v : Value) (c : Array Value) (T : TypeId) (fr : Nat × Nat) (h : w.heap[b]? = some (.cells c T fr)) :
    (w.setCell ⟨b, i, none⟩ v).heap[b]? = some (.cells (c.setIfInBounds i v) T fr) := by
  simp [World.setCell, Array.getElem?_modify, h]

theorem sat.set {b i : Nat} {c : Array Value} {T : TypeId} {fr : Nat × Nat} (hs : sat W (blk b (.cells c T fr) :: H) w) (v : Value) :
    sat W (blk b (.cells (c.setIfInBounds i v) T fr) :: H) (w.setCell ⟨b, i, none⟩ v) :=
  hs.turn rfl rfl rfl (setCell_heap_same w b i v c T fr hs.heap) fun _ _ hk => Below.heap_setCell _ _ _ _ hk

theorem sat.setRow {b : Nat} {c : Array Value} {T : TypeId} (hs : sat W (blk b (.cells c T (0, 0)) :: H) w) (c' : Array Value) :
    sat W (blk b (.cells c' T (0, 0)) :: H) (w.setRow b c') :=
  hs.turn rfl rfl rfl (setRow_heap w b c c' T (0, 0) hs.heap) fun k _ hk => setRow_other w b k c' hk

/-- A new block. -/
theorem sat.alloc (hs : sat W H w) (o : Obj) : sat W (blk w.heap.size o :: H) (w.alloc o) := by
  refine ⟨hs.1, hs.2.1, ⟨hs.2.2.1.1, by have := hs.2.2.1.2; simp; omega⟩, fun x => if x = w.heap.size then some o else none, fun b => w.heap[b]?, fun x => ?_, fun x o' e => ?_, fun x o' e => ?_, by simp [blk], hs.2.2.2⟩
  · by_cases hx : x = w.heap.size
    · right; subst hx; simp
    · left; simp [hx]
  · by_cases hx : x = w.heap.size
    · subst hx; simp at e; subst e; exact heap_alloc_new w _
    · simp [hx] at e
  · have e' : w.heap[x]? = some o' := e
    have hlt : x < w.heap.size := (Array.getElem?_eq_some_iff.1 e').1
    show (w.alloc o).heap[x]? = some o'
    rw [Below.heap_alloc w o x hlt]; exact e'
theorem sat.more (hs : sat W H w) (o : Obj) : sat W H (w.alloc o) := (hs.alloc o).drop

/-- What was there at the start. -/
theorem sat.start (w : World) : sat w [old w] w :=
  ⟨rfl, rfl, ⟨rfl, Nat.le_refl _⟩, fun b => w.heap[b]?, fun _ => none, fun _ => .inr rfl, Hp.sub_refl _, fun _ _ e => by simp at e, fun _ _ => rfl, trivial⟩
theorem sat.old_heap {w0 : World} (hs : sat W (old w0 :: H) w) {b : Nat} (hb : b < w0.heap.size) : w.heap[b]? = w0.heap[b]? := by
  obtain ⟨h1, h2, ap, s1, s2, a, r⟩ := hs.2.2.2
  have := a b hb
  rw [Array.getElem?_eq_getElem hb] at this ⊢
  exact s1 b _ this
theorem sat.old_cell {w0 : World} (hs : sat W (old w0 :: H) w) {a : Addr} {v : Value} (h : w0.cell? a = some v) : w.cell? a = some v :=
  (World.cell?_of_block (hs.old_heap (World.block_lt_of_cell? w0 a h))).trans h
theorem sat.below (hs : sat W (old W :: H) w) : Below W.heap.size W w := by
  refine ⟨hs.1, hs.2.1, hs.2.2.1.1, ?_, fun k hk => hs.old_heap hk⟩
  rcases Nat.eq_zero_or_pos W.heap.size with h | h
  · omega
  · have e := hs.old_heap (b := W.heap.size - 1) (by omega)
    have hlt : W.heap.size - 1 < W.heap.size := by omega
    rw [Array.getElem?_eq_getElem hlt] at e
    have := (Array.getElem?_eq_some_iff.1 e).1
    omega

/-! ## Part k ahead, written out -/
theorem sat.b0 (hs : sat W H w) : sat W H w := hs
theorem sat.b1 {A0 A1 : HProp} (hs : sat W (A0 :: A1 :: H) w) : sat W (A1 :: A0 :: H) w := hs.bring 1
theorem sat.b2 {A0 A1 A2 : HProp} (hs : sat W (A0 :: A1 :: A2 :: H) w) : sat W (A2 :: A0 :: A1 :: H) w := hs.bring 2
theorem sat.b3 {A0 A1 A2 A3 : HProp} (hs : sat W (A0 :: A1 :: A2 :: A3 :: H) w) : sat W (A3 :: A0 :: A1 :: A2 :: H) w := hs.bring 3
theorem sat.b4 {A0 A1 A2 A3 A4 : HProp} (hs : sat W (A0 :: A1 :: A2 :: A3 :: A4 :: H) w) : sat W (A4 :: A0 :: A1 :: A2 :: A3 :: H) w := hs.bring 4
theorem sat.b5 {A0 A1 A2 A3 A4 A5 : HProp} (hs : sat W (A0 :: A1 :: A2 :: A3 :: A4 :: A5 :: H) w) : sat W (A5 :: A0 :: A1 :: A2 :: A3 :: A4 :: H) w := hs.bring 5
theorem sat.b6 {A0 A1 A2 A3 A4 A5 A6 : HProp} (hs : sat W (A0 :: A1 :: A2 :: A3 :: A4 :: A5 :: A6 :: H) w) : sat W (A6 :: A0 :: A1 :: A2 :: A3 :: A4 :: A5 :: H) w := hs.bring 6
theorem sat.b7 {A0 A1 A2 A3 A4 A5 A6 A7 : HProp} (hs : sat W (A0 :: A1 :: A2 :: A3 :: A4 :: A5 :: A6 :: A7 :: H) w) : sat W (A7 :: A0 :: A1 :: A2 :: A3 :: A4 :: A5 :: A6 :: H) w := hs.bring 7
theorem sat.b8 {A0 A1 A2 A3 A4 A5 A6 A7 A8 : HProp} (hs : sat W (A0 :: A1 :: A2 :: A3 :: A4 :: A5 :: A6 :: A7 :: A8 :: H) w) : sat W (A8 :: A0 :: A1 :: A2 :: A3 :: A4 :: A5 :: A6 :: A7 :: H) w := hs.bring 8
theorem sat.b9 {A0 A1 A2 A3 A4 A5 A6 A7 A8 A9 : HProp} (hs : sat W (A0 :: A1 :: A2 :: A3 :: A4 :: A5 :: A6 :: A7 :: A8 :: A9 :: H) w) : sat W (A9 :: A0 :: A1 :: A2 :: A3 :: A4 :: A5 :: A6 :: A7 :: A8 :: H) w := hs.bring 9

theorem sat.dropN (n : Nat) (hs : sat W H w) : sat W (H.drop n) w := by
  induction n generalizing H with
  | zero => exact hs
  | succ n ih => cases H with
    | nil => exact hs
    | cons A H => exact ih hs.drop

/-! ## Endings -/
theorem end_ret {P : Program} {fn : Func} {R : Ending → World → Prop} {a : Act} {w : World} {v : Value} (hd : a.defers = [])
    (hr : (results fn a.tmps).run P w = .ok v w) (h : R (.returned v) w) : bodyPost P fn R .ret a w := ⟨hd, v, hr, h⟩
theorem end_ret0 {P : Program} {fn : Func} {R : Ending → World → Prop} {a : Act} {w : World} (hf : fn.results = #[]) (hd : a.defers = [])
    (h : R (.returned (.tuple #[])) w) : bodyPost P fn R .ret a w := ⟨hd, _, results_none hf _ _ _, h⟩
theorem end_end0 {P : Program} {fn : Func} {R : Ending → World → Prop} {a : Act} {w : World} (hf : fn.results = #[]) (hd : a.defers = [])
    (h : R (.returned (.tuple #[])) w) : bodyPost P fn R .normal a w := ⟨hd, _, results_none hf _ _ _, h⟩

theorem ret_int {k : IntKind} {a b : Int} (h : b = a) : Ending.returned (.int k a) = Ending.returned (.int k b) := by rw [h]
theorem ret_bool {a b : Bool} (h : b = a) : Ending.returned (.bool a) = Ending.returned (.bool b) := by rw [h]
theorem ret_val {a b : Value} (h : b = a) : Ending.returned a = Ending.returned b := by rw [h]

/-! ## Two parts as one -/
def star (A B : HProp) : HProp := fun h => ∃ h1 h2, Hp.apart h1 h2 ∧ Hp.sub h1 h ∧ Hp.sub h2 h ∧ A h1 ∧ B h2
theorem sat.unstar {A B : HProp} (hs : sat W (star A B :: H) w) : sat W (A :: B :: H) w := by
  obtain ⟨h0, h3, ap, s1, s2, ⟨h1, h2, ap', t1, t2, a, b⟩, r⟩ := hs.2.2.2
  have e : Hp.apart h2 h3 := Hp.apart_sub ap t2 (Hp.sub_refl _)
  exact ⟨hs.1, hs.2.1, hs.2.2.1, h1, Hp.join h2 h3, Hp.apart_symm (Hp.apart_join (Hp.apart_symm ap') (Hp.apart_symm (Hp.apart_sub ap t1 (Hp.sub_refl _)))), Hp.sub_trans t1 s1, Hp.join_sub (Hp.sub_trans t2 s1) s2, a, h2, h3, e, Hp.sub_join_left _ _, Hp.sub_join_right e, b, r⟩
theorem sat.star {A B : HProp} (hs : sat W (A :: B :: H) w) : sat W (star A B :: H) w := by
  obtain ⟨h1, h0, ap, s1, s2, a, h2, h3, ap', t1, t2, b, r⟩ := hs.2.2.2
  have e : Hp.apart h1 h2 := Hp.apart_sub ap (Hp.sub_refl _) t1
  exact ⟨hs.1, hs.2.1, hs.2.2.1, Hp.join h1 h2, h3, Hp.apart_join (Hp.apart_sub ap (Hp.sub_refl _) t2) ap', Hp.join_sub s1 (Hp.sub_trans t1 s2), Hp.sub_trans t2 s2, ⟨h1, h2, e, Hp.sub_join_left _ _, Hp.sub_join_right e, a, b⟩, r⟩

/-! ## A slice that is nil, or begins a block of its own -/
/-- v: n elements of 'size' cells each, xs their cells; what stands behind them is not told. -/
def own (T : TypeId) (size : Nat) (v : Value) (n : Nat) (xs : List Value) : HProp := fun h =>
  xs.length = n * size ∧ ((v = .slice none 0 0 ∧ n = 0) ∨
    ∃ b cap cur, v = .slice (some ⟨b, 0, none⟩) n cap ∧ n ≤ cap ∧ cap ≤ maxLen ∧ cur.size = cap * size ∧ cur.toList.take (n * size) = xs ∧ blk b (.cells cur T (0, 0)) h)

variable {T : TypeId} {size : Nat} {v : Value} {n : Nat} {xs : List Value}

theorem sat.own_nil (hs : sat W H w) (T : TypeId) (size : Nat) : sat W (own T size (.slice none 0 0) 0 [] :: H) w := by
  refine ⟨hs.1, hs.2.1, hs.2.2.1, fun _ => none, _, fun _ => .inl rfl, fun _ _ e => by simp at e, Hp.sub_refl _, ⟨by simp, .inl ⟨rfl, rfl⟩⟩, hs.2.2.2⟩

/-- What is known of such a slice. -/
theorem sat.own_cases (hs : sat W (own T size v n xs :: H) w) : xs.length = n * size ∧
    ((v = .slice none 0 0 ∧ n = 0 ∧ xs = []) ∨
     ∃ b cap cur, v = .slice (some ⟨b, 0, none⟩) n cap ∧ n ≤ cap ∧ cap ≤ maxLen ∧ cur.size = cap * size ∧ cur.toList.take (n * size) = xs ∧ sat W (blk b (.cells cur T (0, 0)) :: H) w) := by
  obtain ⟨h1, h2, ap, s1, s2, ⟨hl, a⟩, r⟩ := hs.2.2.2
  refine ⟨hl, ?_⟩
  rcases a with ⟨hv, hn⟩ | ⟨b, cap, cur, hv, hnc, hcm, hcs, ht, hb⟩
  · subst hn
    exact .inl ⟨hv, rfl, List.eq_nil_of_length_eq_zero (by simpa using hl)⟩
  · exact .inr ⟨b, cap, cur, hv, hnc, hcm, hcs, ht, hs.1, hs.2.1, hs.2.2.1, h1, h2, ap, s1, s2, hb, r⟩
theorem sat.own_mk {b cap : Nat} {cur : Array Value} (hs : sat W (blk b (.cells cur T (0, 0)) :: H) w) (h1 : n ≤ cap) (h2 : cap ≤ maxLen) (h3 : cur.size = cap * size) :
    sat W (own T size (.slice (some ⟨b, 0, none⟩) n cap) n (cur.toList.take (n * size)) :: H) w :=
  hs.imp fun _ hb => ⟨by
    rw [List.length_take, Array.length_toList, h3]
    exact Nat.min_eq_left (Nat.mul_le_mul_right _ h1), .inr ⟨b, cap, cur, rfl, h1, h2, h3, rfl, hb⟩⟩
theorem sat.own_cell {b cap i : Nat} {u : Value} (hs : sat W (own T size (.slice (some ⟨b, 0, none⟩) n cap) n xs :: H) w) (hu : xs[i]? = some u) : w.cell? ⟨b, i, none⟩ = some u := by
  rcases hs.own_cases.2 with ⟨hv, _⟩ | ⟨b', cap', cur, hv, _, _, _, ht, hb⟩
  · cases hv
  · cases hv
    refine hb.cell ?_
    rw [← ht, List.getElem?_take] at hu
    split at hu
    · simpa using hu
    · cases hu
theorem sat.own_frozen {b cap i : Nat} (hs : sat W (own T size (.slice (some ⟨b, 0, none⟩) n cap) n xs :: H) w) : w.frozen? ⟨b, i, none⟩ = false := by
  rcases hs.own_cases.2 with ⟨hv, _⟩ | ⟨b', cap', cur, hv, _, _, _, ht, hb⟩
  · cases hv
  · cases hv; exact hb.frozen
theorem sat.own_len {b cap : Nat} (hs : sat W (own T size (.slice (some ⟨b, 0, none⟩) n cap) n xs :: H) w) : n ≤ cap ∧ cap ≤ maxLen := by
  rcases hs.own_cases.2 with ⟨hv, _⟩ | ⟨b', cap', cur, hv, h1, h2, _⟩
  · cases hv
  · cases hv; exact ⟨h1, h2⟩
theorem sat.own_set {b cap i : Nat} (hs : sat W (own T size (.slice (some ⟨b, 0, none⟩) n cap) n xs :: H) w) (u : Value) :
    sat W (own T size (.slice (some ⟨b, 0, none⟩) n cap) n (xs.set i u) :: H) (w.setCell ⟨b, i, none⟩ u) := by
  obtain ⟨hl, hc⟩ := hs.own_cases
  rcases hc with ⟨hv, _⟩ | ⟨b', cap', cur, hv, h1, h2, h3, ht, hb⟩
  · cases hv
  · cases hv
    have h := (hb.set (i := i) u).own_mk (n := n) (size := size) h1 h2 (by simpa using h3)
    rw [Array.toList_setIfInBounds, List.take_set, ht] at h
    exact h

theorem sat.own_slice (hs : sat W (own T size v n xs :: H) w) : ∃ a c, v = .slice a n c := by
  rcases hs.own_cases.2 with ⟨rfl, rfl, _⟩ | ⟨b, cap, cur, rfl, _⟩
  · exact ⟨_, _, rfl⟩
  · exact ⟨_, _, rfl⟩

/-- The facts on a slice's type that an append asks for. -/
structure SlTy (P : Program) (t e : TypeId) (size bytes : Nat) : Prop where
  und : P.underlying t = some (.slice e)
  info : ∃ i z, P.info? e = some i ∧ i.zero = some z ∧ i.size = size ∧ i.bytes = bytes ∧ z.cells.size = size
  pos : 0 < size

theorem run_append_sat {P : Program} {t ty e : TypeId} {size bytes : Nat} (ht : SlTy P t e size bytes)
    (hs : sat W (own e size v n xs :: H) w) {a : Addr} {m c : Nat} {news : List Value} (hl : news.length = m * size)
    (hnews : ∀ j u, news[j]? = some u → w.cell? (a.add j) = some u) (h1 : ∀ u ∈ news, u.oneCell' = true) (hbytes : (n + m) * bytes ≤ 140737488355328) (h63 : n + m ≤ maxLen) :
    ∃ v' w', (Builtin.append_ #[t, t] ty #[v, .slice (some a) m c]).run P w = .ok v' w' ∧ sat W (own e size v' (n + m) (xs ++ news) :: H) w' := by
  obtain ⟨hund, ⟨i, z, hi, hz, hsize, hby, hzs⟩, hpos⟩ := ht
  subst hsize
  subst hby
  have hsmall : n + m ≤ 9223372036854775807 := by simp only [maxLen] at h63; omega
  obtain ⟨hxl, hcase⟩ := hs.own_cases
  have hlen : (xs ++ news).length = (n + m) * i.size := by rw [List.length_append, hxl, hl, Nat.add_mul]
  have grown : ∀ (old : Nat), old < n + m →
      sat W (own e i.size (.slice (some ⟨w.heap.size, 0, none⟩) (n + m) (grownCap w (n + m) old e)) (n + m) (xs ++ news) :: H)
        (w.drew.alloc (.cells (xs.toArray ++ news.toArray ++ Builtin.zeroCells z.cells (grownCap w (n + m) old e - (n + m))) e)) := by
    intro old ho
    have hge := grownCap_ge w (n + m) old e
    have hcm : grownCap w (n + m) old e ≤ maxLen := grownCap_le_maxLen w (n + m) old e h63
    have h0 := (hs.drop.drew.alloc (.cells (xs.toArray ++ news.toArray ++ Builtin.zeroCells z.cells (grownCap w (n + m) old e - (n + m))) e)).own_mk (n := n + m) (size := i.size) hge hcm (by
      simp only [Array.size_append, List.size_toArray, size_zeroCells, hzs, hxl, hl, ← Nat.add_mul]
      congr 1
      omega)
    have e1 : (xs.toArray ++ news.toArray ++ Builtin.zeroCells z.cells (grownCap w (n + m) old e - (n + m))).toList.take ((n + m) * i.size) = xs ++ news := by
      simp only [Array.toList_append, List.append_assoc]
      rw [← List.append_assoc, ← hlen]
      exact List.take_left
    rw [e1] at h0
    exact h0
  rcases hcase with ⟨rfl, rfl, rfl⟩ | ⟨g, cap, cur, rfl, hnc, hcm, hcs, htake, hb⟩
  · by_cases hm : m = 0
    · subst hm
      have hn : news = [] := List.eq_nil_of_length_eq_zero (by simpa using hl)
      subst hn
      refine ⟨.slice none 0 0, w, ?_, hs⟩
      simp [Builtin.append_, run_underlying hund, sizeOf, typeInfo, hi, Builtin.lenOf, Builtin.firstCells, loadCells, loadCellsFrom]
    · have hr := run_append_nil (P := P) w t ty e i z hund hi hz a m c news hl hnews (by omega) (by omega) (by have hb := hbytes; simp only [Nat.zero_add] at hb; omega)
      have hgr := grown 0 (by omega)
      simp only [Nat.zero_add, List.nil_append, Array.empty_append] at hgr ⊢
      exact ⟨_, _, hr, hgr⟩
  · by_cases hroom : n + m ≤ cap
    · have hfit : n * i.size + news.length ≤ cur.size := by rw [hl, hcs, ← Nat.add_mul]; exact Nat.mul_le_mul_right _ hroom
      have hr := run_append_room (P := P) w t ty e i hund hi g n cap cur hb.heap a m c news hl hnews h1 hroom hfit
      have hg := hb.heap
      have ht := hb.turn (w' := w.setRow g (cur.toList.take (n * i.size) ++ news ++ cur.toList.drop (n * i.size + news.length)).toArray) rfl rfl rfl (setRow_heap w g cur _ e _ hg)
        (fun k _ hk => setRow_other w g k _ hk)
      have h0 := ht.own_mk (n := n + m) (size := i.size) hroom hcm (by
        simp only [List.size_toArray, List.length_append, List.length_take, List.length_drop, Array.length_toList]
        rw [hl] at hfit ⊢
        omega)
      have e1 : (cur.toList.take (n * i.size) ++ news ++ cur.toList.drop (n * i.size + news.length)).toArray.toList.take ((n + m) * i.size) = xs ++ news := by
        show (cur.toList.take (n * i.size) ++ news ++ cur.toList.drop (n * i.size + news.length)).take ((n + m) * i.size) = _
        rw [htake, ← hlen]
        exact List.take_left
      rw [e1] at h0
      exact ⟨_, _, hr, h0⟩
    · have holds : ∀ j u, xs[j]? = some u → w.cell? ((⟨g, 0, none⟩ : Addr).add j) = some u := by
        intro j u hu
        have hadd : (⟨g, 0, none⟩ : Addr).add j = ⟨g, j, none⟩ := by unfold Addr.add; split <;> simp_all
        rw [hadd]
        exact hs.own_cell hu
      have hr := run_append_grow (P := P) w t ty e i z hund hi hz ⟨g, 0, none⟩ n cap xs hxl holds a m c news hl hnews (by omega) (by omega) (growslice_fits (by omega) hbytes)
      exact ⟨_, _, hr, grown cap (by omega)⟩

theorem run_append_sat_none {P : Program} {t ty e : TypeId} {size bytes : Nat} (ht : SlTy P t e size bytes)
    (hs : sat W (own e size v n xs :: H) w) : (Builtin.append_ #[t, t] ty #[v, .slice none 0 0]).run P w = .ok v w := by
  obtain ⟨hund, ⟨i, z, hi, hz, hsize, hby, hzs⟩, hpos⟩ := ht
  rcases hs.own_cases.2 with ⟨rfl, rfl, rfl⟩ | ⟨g, cap, cur, rfl, hnc, hcm, hcs, htake, hb⟩
  · simp [Builtin.append_, run_underlying hund, sizeOf, typeInfo, hi, Builtin.lenOf, Builtin.firstCells]
  · exact run_append_owned_none (P := P) (w := w) 0 t ty e i size hund hi _ n xs ⟨hs.own_cases.1, .inr ⟨g, cap, cur, rfl, Nat.zero_le _, hb.heap, hnc, hcm, hcs, htake⟩⟩

section
variable {P : Program} {ops : Array Oper} {rest : List Oper} {o : Oper} {a : Act} {Q : Exit → Act → World → Prop}
/-- append onto a slice of one's own, as a step of the walk. -/
theorem wpList_append_sat (hw : Region.wanted o (yielded ops a.tmps) = true) (s x : Operand) (t : TypeId)
    (ho : o.op = .call { callee := .builtin .append, args := #[s, x], argTypes := #[t, t] })
    {e : TypeId} {size bytes : Nat} (ht : SlTy P t e size bytes)
    (hev : a.eval s = v) (hs : sat W (own e size v n xs :: H) w)
    {ad : Addr} {m c : Nat} {news : List Value} (hx : a.eval x = .slice (some ad) m c) (hl : news.length = m * size) (hnews : ∀ j u, news[j]? = some u → w.cell? (ad.add j) = some u) (h1 : ∀ u ∈ news, u.oneCell' = true)
    (hbytes : (n + m) * bytes ≤ 140737488355328) (h63 : n + m ≤ maxLen)
    (h : ∀ a' c' w', sat W (own e size (.slice a' (n + m) c') (n + m) (xs ++ news) :: H) w' → wpList P ops Q rest (a.put o.dst (.slice a' (n + m) c')) w') : wpList P ops Q (o :: rest) a w := by
  obtain ⟨v', w', hr, h2⟩ := run_append_sat (P := P) (ty := o.type) (a := ad) (m := m) (c := c) ht hs hl hnews h1 hbytes h63
  refine BigFrame.wpList_want hw fun K hK => ?_
  unfold Oper.wp execOp
  simp only [ho, resolve, invoke, builtin, Sem.run_bind, Sem.run_pure, Result.andThen_ok, List.map_toArray, List.map_cons, List.map_nil, hev, hx, hr]
  obtain ⟨a', c', rfl⟩ := h2.own_slice
  exact hK _ _ (h a' c' w' h2)
theorem wpList_append_sat_none (hw : Region.wanted o (yielded ops a.tmps) = true) (s x : Operand) (t : TypeId)
    (ho : o.op = .call { callee := .builtin .append, args := #[s, x], argTypes := #[t, t] })
    {e : TypeId} {size bytes : Nat} (ht : SlTy P t e size bytes)
    (hev : a.eval s = v) (hs : sat W (own e size v n xs :: H) w) (hx : a.eval x = .slice none 0 0)
    (h : wpList P ops Q rest (a.put o.dst v) w) : wpList P ops Q (o :: rest) a w := by
  have hr := run_append_sat_none (P := P) (ty := o.type) ht hs
  refine BigFrame.wpList_want hw fun K hK => ?_
  unfold Oper.wp execOp
  simp only [ho, resolve, invoke, builtin, Sem.run_bind, Sem.run_pure, Result.andThen_ok, List.map_toArray, List.map_cons, List.map_nil, hev, hx, hr]
  exact hK _ _ h
end

/-! ## A whole block: a struct, an array -/
section
variable {P : Program} {ops : Array Oper} {rest : List Oper} {o : Oper} {a : Act} {Q : Exit → Act → World → Prop}
/-- A struct is stored over the whole of a block. -/
theorem wpList_store_all (x y : Operand) {b N : Nat} {old : Array Value} {T ty : TypeId} (hs : sat W (blk b (.cells old T (0, 0)) :: H) w) (hold : old.size = N)
    (ho : o.op = .store ty x y) (hw : Region.wanted o (yielded ops a.tmps) = true) (hx : a.eval x = .pointer (some ⟨b, 0, none⟩))
    (hn : (P.info? ty).map (·.size) = some N) (hy : a.eval y = .agg (a.eval y).cells) (hc : (a.eval y).cells.size = N) (h1 : (a.eval y).cells.toList.all (·.oneCell') = true)
    (h : ∀ w', sat W (blk b (.cells (a.eval y).cells T (0, 0)) :: H) w' → wpList P ops Q rest (a.put o.dst undef) w') : wpList P ops Q (o :: rest) a w := by
  refine BigFrame.wpList_want hw fun K hK => ?_
  exact wp_store_row ty x y ho b _ hx hy T old hs.heap (by rw [hn, hc]) (by rw [hold, hc]) (by simpa using h1) (hK _ _ (h _ (hs.setRow _)))
/-- A struct is read, the whole of a block. -/
theorem wpList_load_all (x : Operand) {b N : Nat} {cs : Array Value} {T ty : TypeId} {fr : Nat × Nat} {d : TypeDesc} (hs : sat W (blk b (.cells cs T fr) :: H) w) (hN : cs.size = N)
    (ho : o.op = .load ty x) (hw : Region.wanted o (yielded ops a.tmps) = true) (hx : a.eval x = .pointer (some ⟨b, 0, none⟩))
    (hu : P.underlying ty = some d) (hd : (match d with | .struct _ | .array _ _ => true | _ => false) = true) (hn : (P.info? ty).map (·.size) = some N)
    (h : wpList P ops Q rest (a.put o.dst (.agg cs)) w) : wpList P ops Q (o :: rest) a w := by
  refine BigFrame.wpList_want hw fun K hK => ?_
  exact wp_load_row ty x ho b hx T cs fr d hs.heap hu hd (by rw [hn, hN]) (hK _ _ h)
end

/-! ## The walk's own laws: the world stays a variable -/
/-- Block b, its cells a list. -/
def cel (b : Nat) (T : TypeId) (l : List Value) : HProp := blk b (.cells l.toArray T (0, 0))
/-- A variable of this type is one cell. -/
def oneTy (P : Program) (ty : TypeId) : Bool :=
  (match P.underlying ty with | some (.struct _) | some (.array _ _) | none => false | some _ => true) && (P.info? ty).map (·.size) == some 1
/-- .. is so many cells, together one value. -/
def rowTy (P : Program) (ty : TypeId) (n : Nat) : Bool :=
  (match P.underlying ty with | some (.struct _) | some (.array _ _) => true | _ => false) && (P.info? ty).map (·.size) == some n

theorem run_loadAt_one {P : Program} {ty : TypeId} (ht : oneTy P ty = true) {w : World} {a : Addr} {v : Value} (hc : w.cell? a = some v) :
    (Instr.loadAt ty (.pointer (some a))).run P w = .ok v w := by
  simp only [oneTy, Bool.and_eq_true, beq_iff_eq] at ht
  have hagg : (isAgg ty).run P w = .ok false w := by
    cases hu : P.underlying ty with
    | none => simp [hu] at ht
    | some d =>
      unfold isAgg
      rw [Sem.run_bind, run_underlying hu w]
      have h1 := ht.1
      rw [hu] at h1
      cases d <;> simp_all
  simp [Instr.loadAt, Instr.sureAddr, loadVar, hagg, run_load, hc]

theorem run_storeAt_one {P : Program} {ty : TypeId} (ht : oneTy P ty = true) {w : World} {a : Addr} {u v : Value} (hc : w.cell? a = some u) (hf : w.frozen? a = false) (h1 : v.oneCell' = true) :
    (Instr.storeAt ty (.pointer (some a)) v).run P w = .ok () (w.setCell a v) := by
  simp only [oneTy, Bool.and_eq_true, beq_iff_eq] at ht
  have hs : v.cells = #[v] := by cases v <;> first | rfl | simp [Value.oneCell'] at h1
  cases hq : P.info? ty with
  | none => simp [hq] at ht
  | some i =>
    have h2 : i.size = 1 := by simpa [hq] using ht.2
    have hst : (store (a.add 0) v).run P w = .ok () (w.setCell a v) := by
      have : a.add 0 = a := by simp [Addr.add]
      rw [this, run_store P w a v _ h1, hc]
      simp [hf]
    simp [Instr.storeAt, Instr.sureAddr, storeVar, sizeOf, typeInfo, hq, hs, h2, storeCells, hst]

section
variable {P : Program} {ops : Array Oper} {rest : List Oper} {o : Oper} {a : Act} {Q : Exit → Act → World → Prop} {b i : Nat} {l : List Value} {ty : TypeId}

theorem sat.cel_cell (hs : sat W (cel b T l :: H) w) {u : Value} (h : l[i]? = some u) : w.cell? ⟨b, i, none⟩ = some u := hs.cell (by simpa using h)
theorem sat.cel_set (hs : sat W (cel b T l :: H) w) (u : Value) : sat W (cel b T (l.set i u) :: H) (w.setCell ⟨b, i, none⟩ u) := by
  have h := sat.set (i := i) hs u
  rw [List.setIfInBounds_toArray] at h
  exact h

/-- One cell is read. -/
theorem ld {x : Operand} (hs : sat W (cel b T l :: H) w) (ho : o.op = .load ty x) (hw : Region.wanted o (yielded ops a.tmps) = true) (hx : a.eval x = .pointer (some ⟨b, i, none⟩))
    (hv : l[i]? = some v) (ht : oneTy P ty = true) (h : wpList P ops Q rest (a.put o.dst v) w) : wpList P ops Q (o :: rest) a w := by
  refine BigFrame.wpList_want hw fun K hK => ?_
  unfold Oper.wp execOp
  simp only [ho, hx, Sem.run_bind, Sem.run_pure, Result.andThen_ok, run_loadAt_one ht (hs.cel_cell hv)]
  exact hK _ _ h
/-- One cell is written (a temporary's value; a constant). -/
theorem st {x : Operand} {t : Tmp} (hs : sat W (cel b T l :: H) w) (ho : o.op = .store ty x (.tmp t)) (hw : Region.wanted o (yielded ops a.tmps) = true) (hx : a.eval x = .pointer (some ⟨b, i, none⟩))
    (hy : a.tmps.toList[t]? = some v) (h1 : v.oneCell' = true) (hi : l[i]?.isSome = true) (ht : oneTy P ty = true) (hd : o.dst = none)
    (h : ∀ w', sat W (cel b T (l.set i v) :: H) w' → wpList P ops Q rest a w') : wpList P ops Q (o :: rest) a w := by
  refine BigFrame.wpList_want hw fun K hK => ?_
  obtain ⟨u, hu⟩ := Option.isSome_iff_exists.1 hi
  have hc : w.cell? ⟨b, i, none⟩ = some u := hs.cel_cell hu
  have hy' : a.eval (.tmp t) = v := by show a.tmps.getD t undef = v; rw [Array.getD_eq_getD_getElem?, ← Array.getElem?_toList, hy]; rfl
  unfold Oper.wp execOp
  simp only [ho, hx, hy', Sem.run_bind, Sem.run_pure, Result.andThen_ok, run_storeAt_one ht hc hs.frozen h1]
  rw [Oper.upon_skip, hd]
  exact hK _ _ (h _ (hs.cel_set v))
theorem stc {x : Operand} (hs : sat W (cel b T l :: H) w) (ho : o.op = .store ty x (.const v)) (hw : Region.wanted o (yielded ops a.tmps) = true) (hx : a.eval x = .pointer (some ⟨b, i, none⟩))
    (h1 : v.oneCell' = true) (hi : l[i]?.isSome = true) (ht : oneTy P ty = true) (hd : o.dst = none)
    (h : ∀ w', sat W (cel b T (l.set i v) :: H) w' → wpList P ops Q rest a w') : wpList P ops Q (o :: rest) a w := by
  refine BigFrame.wpList_want hw fun K hK => ?_
  obtain ⟨u, hu⟩ := Option.isSome_iff_exists.1 hi
  have hc : w.cell? ⟨b, i, none⟩ = some u := hs.cel_cell hu
  have hy' : a.eval (.const v) = v := rfl
  unfold Oper.wp execOp
  simp only [ho, hx, hy', Sem.run_bind, Sem.run_pure, Result.andThen_ok, run_storeAt_one ht hc hs.frozen h1]
  rw [Oper.upon_skip, hd]
  exact hK _ _ (h _ (hs.cel_set v))

/-- An element of a slice of one's own. -/
theorem ldo {x : Operand} {cap : Nat} (hs : sat W (own T size (.slice (some ⟨b, 0, none⟩) n cap) n xs :: H) w) (ho : o.op = .load ty x) (hw : Region.wanted o (yielded ops a.tmps) = true) (hx : a.eval x = .pointer (some ⟨b, i, none⟩))
    (hv : xs[i]? = some v) (ht : oneTy P ty = true) (h : wpList P ops Q rest (a.put o.dst v) w) : wpList P ops Q (o :: rest) a w := by
  refine BigFrame.wpList_want hw fun K hK => ?_
  unfold Oper.wp execOp
  simp only [ho, hx, Sem.run_bind, Sem.run_pure, Result.andThen_ok, run_loadAt_one ht (hs.own_cell hv)]
  exact hK _ _ h
theorem sto {x : Operand} {t : Tmp} {cap : Nat} (hs : sat W (own T size (.slice (some ⟨b, 0, none⟩) n cap) n xs :: H) w) (ho : o.op = .store ty x (.tmp t)) (hw : Region.wanted o (yielded ops a.tmps) = true) (hx : a.eval x = .pointer (some ⟨b, i, none⟩))
    (hy : a.tmps.toList[t]? = some v) (h1 : v.oneCell' = true) (hi : xs[i]?.isSome = true) (ht : oneTy P ty = true) (hd : o.dst = none)
    (h : ∀ w', sat W (own T size (.slice (some ⟨b, 0, none⟩) n cap) n (xs.set i v) :: H) w' → wpList P ops Q rest a w') : wpList P ops Q (o :: rest) a w := by
  refine BigFrame.wpList_want hw fun K hK => ?_
  obtain ⟨u, hu⟩ := Option.isSome_iff_exists.1 hi
  have hc : w.cell? ⟨b, i, none⟩ = some u := hs.own_cell hu
  have hy' : a.eval (.tmp t) = v := by show a.tmps.getD t undef = v; rw [Array.getD_eq_getD_getElem?, ← Array.getElem?_toList, hy]; rfl
  unfold Oper.wp execOp
  simp only [ho, hx, hy', Sem.run_bind, Sem.run_pure, Result.andThen_ok, run_storeAt_one ht hc hs.own_frozen h1]
  rw [Oper.upon_skip, hd]
  exact hK _ _ (h _ (hs.own_set v))
/-- What lay there at the start. -/
theorem ldold {x : Operand} {w0 : World} {ad : Addr} (hs : sat W (old w0 :: H) w) (ho : o.op = .load ty x) (hw : Region.wanted o (yielded ops a.tmps) = true) (hx : a.eval x = .pointer (some ad))
    (hv : w0.cell? ad = some v) (ht : oneTy P ty = true) (h : wpList P ops Q rest (a.put o.dst v) w) : wpList P ops Q (o :: rest) a w := by
  refine BigFrame.wpList_want hw fun K hK => ?_
  unfold Oper.wp execOp
  simp only [ho, hx, Sem.run_bind, Sem.run_pure, Result.andThen_ok, run_loadAt_one ht (hs.old_cell hv)]
  exact hK _ _ h

theorem add_none (b i j : Nat) : (⟨b, i, none⟩ : Addr).add j = ⟨b, i + j, none⟩ := by unfold Addr.add; split <;> simp_all
theorem sat.own_some (hs : sat W (own T size v n xs :: H) w) (hn : 0 < n) : ∃ g c, v = .slice (some ⟨g, 0, none⟩) n c := by
  rcases hs.own_cases.2 with ⟨rfl, rfl, _⟩ | ⟨b, cap, cur, rfl, _⟩
  · omega
  · exact ⟨_, _, rfl⟩
/-- append: what is appended lies in a block of its own (a literal's), which is forgotten. -/
theorem app {s x : Operand} {t e : TypeId} {bytes m cc g c n : Nat} {a0 : Option Addr} {T' : TypeId} {news : List Value} (hs : sat W (own e size (.slice a0 n c) n xs :: cel g T' news :: H) w)
    (ho : o.op = .call { callee := .builtin .append, args := #[s, x], argTypes := #[t, t] }) (hw : Region.wanted o (yielded ops a.tmps) = true)
    (hev : a.eval s = .slice a0 n c) (hx : a.eval x = .slice (some ⟨g, 0, none⟩) m cc) (ht : SlTy P t e size bytes) (hl : news.length = m * size) (h1 : news.all (·.oneCell') = true) (hm : 0 < m)
    (hbytes : (n + m) * bytes ≤ 140737488355328) (h63 : n + m ≤ maxLen)
    (h : ∀ g' c' w', sat W (own e size (.slice (some ⟨g', 0, none⟩) (n + m) c') (n + m) (xs ++ news) :: H) w' → wpList P ops Q rest (a.put o.dst (.slice (some ⟨g', 0, none⟩) (n + m) c')) w') : wpList P ops Q (o :: rest) a w :=
  wpList_append_sat hw s x t ho ht hev hs hx hl (fun j u hu => by rw [add_none, Nat.zero_add]; exact hs.swap.cel_cell hu) (fun u hu => List.all_eq_true.1 h1 u hu) hbytes h63
    fun a' c' w' hs' => by
      obtain ⟨g', c'', e⟩ := hs'.own_some (by omega)
      cases e
      exact h _ _ _ hs'.swap.drop
/-- append: what is appended is another slice of one's own. -/
theorem appo {s x : Operand} {t e : TypeId} {bytes m cc g c n k : Nat} {a0 : Option Addr} {T' : TypeId} {news : List Value} (hs : sat W (own e size (.slice a0 n c) n xs :: own T' size (.slice (some ⟨g, 0, none⟩) k cc) k news :: H) w)
    (ho : o.op = .call { callee := .builtin .append, args := #[s, x], argTypes := #[t, t] }) (hw : Region.wanted o (yielded ops a.tmps) = true)
    (hev : a.eval s = .slice a0 n c) (hx : a.eval x = .slice (some ⟨g, 0, none⟩) m cc) (ht : SlTy P t e size bytes) (hl : news.length = m * size) (h1 : ∀ u ∈ news, u.oneCell' = true)
    (hbytes : (n + m) * bytes ≤ 140737488355328) (h63 : n + m ≤ maxLen)
    (h : ∀ a' c' w', sat W (own e size (.slice a' (n + m) c') (n + m) (xs ++ news) :: own T' size (.slice (some ⟨g, 0, none⟩) k cc) k news :: H) w' → wpList P ops Q rest (a.put o.dst (.slice a' (n + m) c')) w') : wpList P ops Q (o :: rest) a w :=
  wpList_append_sat hw s x t ho ht hev hs hx hl (fun j u hu => by rw [add_none, Nat.zero_add]; exact hs.swap.own_cell hu) h1 hbytes h63 h

/-- The walk's own new block, draw: the world is a variable again. -/
theorem wrap (hs : sat W H w) (h : ∀ w', sat W (cel w.heap.size T l :: H) w' → wpList P ops Q rest a w') : wpList P ops Q rest a (w.alloc (.cells l.toArray T)) := h _ (hs.alloc _)
theorem wrapd (hs : sat W H w) (h : ∀ w', sat W H w' → wpList P ops Q rest a w') : wpList P ops Q rest a w.drew := h _ hs.drew
theorem wrapn {k : Nat} (hs : sat W H w) (h : ∀ w', sat W H w' → wpList P ops Q rest a w') : wpList P ops Q rest a (w.drewN k) := h _ (hs.drewN _)
/-- A guard: the walk stands at a list of operations. -/
theorem isl (h : wpList P ops Q rest a w) : wpList P ops Q rest a w := h
end

theorem ints_get {k : IntKind} {ys : List Int} {i : Nat} (h : i < ys.length) : (ys.map (Value.int k))[i]? = some (.int k (ys.getD i 0)) := by
  simp [h]
theorem ints_some {k : IntKind} {ys : List Int} {i : Nat} (h : i < ys.length) : (ys.map (Value.int k))[i]?.isSome = true := by
  simp [h]

/-! ## A region that draws its order and only reads, in whatever world meets what is known -/
theorem region_sat {P : Program} {id : Nat} {Q : Exit → Act → World → Prop} {a : Act} {l : List Oper} (hs : sat W H w) (hm : P.follows .mixedOrders = true) (hB : Region.lexB .any l.toArray = true)
    (h : ∀ (X : Type) (f : X → World), Nonempty X → (∀ x, sat W H (f x)) → (∀ w', sat W H w' → ∃ x, w' = f x) → wpQuiet P l.toArray (fun w' => ∃ x : X, w' = f x) (fun a' => ∀ w', sat W H w' → Q .normal a' w') l a) : (Code.region id l.toArray true).wp P Q a w := by
  have h' := h {w' : World // sat W H w'} (fun x => x.1) ⟨⟨w, hs⟩⟩ (fun x => x.2) (fun w' hw => ⟨⟨w', hw⟩, rfl⟩)
  have e : (fun w' => ∃ x : {w' : World // sat W H w'}, w' = x.1) = fun w' => sat W H w' := by
    funext w'
    exact propext ⟨fun ⟨x, hx⟩ => hx ▸ x.2, fun hx => ⟨⟨w', hx⟩, rfl⟩⟩
  rw [e] at h'
  exact wp_region_quiet (C := fun w' => sat W H w') hm hB hs.drew (by simpa using h')
section
variable {P : Program} {ops : Array Oper} {rest : List Oper} {o : Oper} {a : Act} {Q : Act → Prop} {b i : Nat} {l : List Value} {ty : TypeId} {X : Type} {f : X → World}
theorem ldq {x : Operand} (hf : ∀ x, sat W (cel b T l :: H) (f x)) (ho : o.op = .load ty x) (hw : Region.wanted o (yielded ops a.tmps) = true) (hx : a.eval x = .pointer (some ⟨b, i, none⟩))
    (hv : l[i]? = some v) (ht : oneTy P ty = true) (h : wpQuiet P ops (fun w' => ∃ x : X, w' = f x) Q rest (a.put o.dst v)) : wpQuiet P ops (fun w' => ∃ x : X, w' = f x) Q (o :: rest) a := by
  refine BigFrame.wpQuiet_want hw fun K hK => ⟨v, ?_, hK _ h⟩
  rintro _ ⟨x, rfl⟩
  unfold Oper.quietAt execOp
  simp only [ho, hx, Sem.run_bind, Sem.run_pure, Result.andThen_ok, run_loadAt_one ht ((hf x).cel_cell hv)]
  exact ⟨rfl, rfl⟩
theorem ldoq {x : Operand} {cap : Nat} (hf : ∀ x, sat W (own T size (.slice (some ⟨b, 0, none⟩) n cap) n xs :: H) (f x)) (ho : o.op = .load ty x) (hw : Region.wanted o (yielded ops a.tmps) = true) (hx : a.eval x = .pointer (some ⟨b, i, none⟩))
    (hv : xs[i]? = some v) (ht : oneTy P ty = true) (h : wpQuiet P ops (fun w' => ∃ x : X, w' = f x) Q rest (a.put o.dst v)) : wpQuiet P ops (fun w' => ∃ x : X, w' = f x) Q (o :: rest) a := by
  refine BigFrame.wpQuiet_want hw fun K hK => ⟨v, ?_, hK _ h⟩
  rintro _ ⟨x, rfl⟩
  unfold Oper.quietAt execOp
  simp only [ho, hx, Sem.run_bind, Sem.run_pure, Result.andThen_ok, run_loadAt_one ht ((hf x).own_cell hv)]
  exact ⟨rfl, rfl⟩
theorem ldoldq {x : Operand} {w0 : World} {ad : Addr} (hf : ∀ x, sat W (old w0 :: H) (f x)) (ho : o.op = .load ty x) (hw : Region.wanted o (yielded ops a.tmps) = true) (hx : a.eval x = .pointer (some ad))
    (hv : w0.cell? ad = some v) (ht : oneTy P ty = true) (h : wpQuiet P ops (fun w' => ∃ x : X, w' = f x) Q rest (a.put o.dst v)) : wpQuiet P ops (fun w' => ∃ x : X, w' = f x) Q (o :: rest) a := by
  refine BigFrame.wpQuiet_want hw fun K hK => ⟨v, ?_, hK _ h⟩
  rintro _ ⟨x, rfl⟩
  unfold Oper.quietAt execOp
  simp only [ho, hx, Sem.run_bind, Sem.run_pure, Result.andThen_ok, run_loadAt_one ht ((hf x).old_cell hv)]
  exact ⟨rfl, rfl⟩
end

/-! ## A region that draws its order: reads, and then what stands in one forced order -/
theorem still_of_quiet {P : Program} {ops : Array Oper} {Q : Act → Prop} {w1 : World} : ∀ (l : List Oper) (a : Act), wpQuiet P ops (fun w' => w' = w1) Q l a → wpStill P ops w1 Q l a
  | [], _, h => h
  | o :: rest, a, h => by
    unfold wpQuiet at h
    unfold wpStill
    split
    · rename_i hw
      rw [if_pos hw] at h
      obtain ⟨v, h1, h2⟩ := h
      have h3 := h1 w1 rfl
      unfold Oper.quietAt at h3
      unfold Oper.still
      generalize (execOp a.eval o).run P w1 = r at h3
      cases r with
      | ok n w' =>
        cases n <;> simp only [Oper.quietUpon] at h3 <;> simp only [Oper.stillUpon]
        case value u => obtain ⟨e1, e2⟩ := h3; subst e2; exact ⟨e1, still_of_quiet rest _ h2⟩
        case skip => obtain ⟨e1, e2⟩ := h3; subst e2; exact ⟨e1, still_of_quiet rest _ h2⟩
        case enter f args => obtain ⟨e1, e2⟩ := h3; exact ⟨e1, v, e2, still_of_quiet rest _ h2⟩
      | halt x w' => simp only [Oper.quietUpon] at h3
    · rename_i hw
      rw [if_neg hw] at h
      exact still_of_quiet rest _ h
theorem region_tail {P : Program} {id : Nat} {Q : Exit → Act → World → Prop} {a : Act} {l : List Oper} (n : Nat) (hs : sat W H w) (hm : P.follows .mixedOrders = true) (hB : Region.lexTailB .any l.toArray n = true)
    (h : ∀ w1, sat W H w1 → wpQuiet P l.toArray (fun w' => w' = w1) (fun a' => wpList P l.toArray Q (l.drop n) a' w1) (l.take n) a) : (Code.region id l.toArray true).wp P Q a w :=
  wp_region_still_tail n hm hB (still_of_quiet _ _ (h _ hs.drew))
section
variable {P : Program} {ops : Array Oper} {rest : List Oper} {o : Oper} {a : Act} {Q : Act → Prop} {b i : Nat} {l : List Value} {ty : TypeId}
theorem ldt {x : Operand} (hs : sat W (cel b T l :: H) w) (ho : o.op = .load ty x) (hw : Region.wanted o (yielded ops a.tmps) = true) (hx : a.eval x = .pointer (some ⟨b, i, none⟩))
    (hv : l[i]? = some v) (ht : oneTy P ty = true) (h : wpQuiet P ops (fun w' => w' = w) Q rest (a.put o.dst v)) : wpQuiet P ops (fun w' => w' = w) Q (o :: rest) a := by
  refine BigFrame.wpQuiet_want hw fun K hK => ⟨v, ?_, hK _ h⟩
  rintro _ rfl
  unfold Oper.quietAt execOp
  simp only [ho, hx, Sem.run_bind, Sem.run_pure, Result.andThen_ok, run_loadAt_one ht (hs.cel_cell hv)]
  exact ⟨rfl, rfl⟩
theorem ldot {x : Operand} {cap : Nat} (hs : sat W (own T size (.slice (some ⟨b, 0, none⟩) n cap) n xs :: H) w) (ho : o.op = .load ty x) (hw : Region.wanted o (yielded ops a.tmps) = true) (hx : a.eval x = .pointer (some ⟨b, i, none⟩))
    (hv : xs[i]? = some v) (ht : oneTy P ty = true) (h : wpQuiet P ops (fun w' => w' = w) Q rest (a.put o.dst v)) : wpQuiet P ops (fun w' => w' = w) Q (o :: rest) a := by
  refine BigFrame.wpQuiet_want hw fun K hK => ⟨v, ?_, hK _ h⟩
  rintro _ rfl
  unfold Oper.quietAt execOp
  simp only [ho, hx, Sem.run_bind, Sem.run_pure, Result.andThen_ok, run_loadAt_one ht (hs.own_cell hv)]
  exact ⟨rfl, rfl⟩
theorem ldoldt {x : Operand} {w0 : World} {ad : Addr} (hs : sat W (old w0 :: H) w) (ho : o.op = .load ty x) (hw : Region.wanted o (yielded ops a.tmps) = true) (hx : a.eval x = .pointer (some ad))
    (hv : w0.cell? ad = some v) (ht : oneTy P ty = true) (h : wpQuiet P ops (fun w' => w' = w) Q rest (a.put o.dst v)) : wpQuiet P ops (fun w' => w' = w) Q (o :: rest) a := by
  refine BigFrame.wpQuiet_want hw fun K hK => ⟨v, ?_, hK _ h⟩
  rintro _ rfl
  unfold Oper.quietAt execOp
  simp only [ho, hx, Sem.run_bind, Sem.run_pure, Result.andThen_ok, run_loadAt_one ht (hs.old_cell hv)]
  exact ⟨rfl, rfl⟩
end

/-! ## Operations that the kit has no law for -/
@[go_sem] theorem run_sliceAt_array_hm {P : Program} (w : World) (t : TypeId) (a : Addr) (ht : P.underlying t = some (.array (P.arrayLen t) (P.elem t)))
    (kh km : IntKind) (h m : Int) (h0 : 0 ≤ h) (h1 : h ≤ m) (h2 : m ≤ P.arrayLen t) :
    (Instr.sliceAt t (.pointer (some a)) none (some (.int kh h)) (some (.int km m))).run P w =
      ((sizeOf (P.elem t)).run P w).andThen fun s w => .ok (slicedAt a 0 h.toNat m.toNat s) w := by
  have em : (m.toNat : Int) = m := Int.toNat_of_nonneg (by omega)
  simp [Instr.sliceAt, Instr.sureAddr, slicedAt, run_underlying ht, Instr.sliceBounds, run_sliceBound, *, (by omega : 0 ≤ m)]

/-! ## Reading -/
/-- v: a slice that reads as xs (elements of one cell). -/
def Reads (w : World) (v : Value) (xs : List Value) : Prop :=
  xs.length ≤ maxLen ∧ ∃ a cap, v = .slice a xs.length cap ∧ (xs ≠ [] → ∃ b off, a = some ⟨b, off, none⟩ ∧ ∀ i u, xs[i]? = some u → w.cell? ⟨b, off + i, none⟩ = some u)
theorem Reads.drewN {w : World} {v : Value} {xs : List Value} (h : Reads w v xs) (n : Nat) : Reads (w.drewN n) v xs := h
theorem sat.own_reads (hs : sat W (own T 1 v n xs :: H) w) : Reads w v xs ∧ n = xs.length := by
  obtain ⟨hl, hc⟩ := hs.own_cases
  have hn : n = xs.length := by omega
  subst hn
  refine ⟨?_, rfl⟩
  rcases hc with ⟨rfl, h0, h1⟩ | ⟨b, cap, cur, rfl, h1, h2, h3, ht, hb⟩
  · rw [h1]; exact ⟨Nat.zero_le _, none, 0, rfl, fun h => (h rfl).elim⟩
  · exact ⟨by omega, some ⟨b, 0, none⟩, cap, rfl, fun _ => ⟨b, 0, rfl, fun i u hu => by rw [Nat.zero_add]; exact hs.own_cell hu⟩⟩

theorem sat.cel_reads {b cap : Nat} {l : List Value} (hs : sat W (cel b T l :: H) w) (hl : l.length ≤ maxLen) : Reads w (.slice (some ⟨b, 0, none⟩) l.length cap) l :=
  ⟨hl, some ⟨b, 0, none⟩, cap, rfl, fun _ => ⟨b, 0, rfl, fun i u hu => by rw [Nat.zero_add]; exact hs.cel_cell hu⟩⟩

/-! ## Slices of integers that came in -/
/-- It is nil; or it leads to a row of 'cap' cells, the numbers 'zs' (the first 'len' are its elements), each fitting its kind. -/
def IsRow (k : IntKind) (w : World) (a : Option Addr) (len cap : Nat) (zs : List Int) : Prop :=
  (a = none ∧ len = 0 ∧ cap = 0 ∧ zs = []) ∨
  ∃ x, a = some x ∧ len ≤ cap ∧ cap ≤ maxLen ∧ zs.length = cap ∧ (∀ i, i < zs.length → w.cell? (x.add i) = some (.int k (zs.getD i 0))) ∧ ∀ n ∈ zs, (Lit.int k n).wf = true
/-- The elements alone. -/
structure ArgInts (k : IntKind) (w : World) (a : Option Addr) (xs : List Int) : Prop where
  len : xs.length ≤ maxLen
  cells : 0 < xs.length → ∃ g off, a = some ⟨g, off, none⟩ ∧ ∀ i, i < xs.length → w.cell? ⟨g, off + i, none⟩ = some (.int k (xs.getD i 0))
  wf : ∀ x ∈ xs, (Lit.int k x).wf = true
theorem IsRow.args {k : IntKind} {w : World} {a : Option Addr} {len cap : Nat} {zs : List Int} (h : IsRow k w a len cap zs) : ∃ xs, xs.length = len ∧ ArgInts k w a xs := by
  rcases h with ⟨rfl, rfl, rfl, rfl⟩ | ⟨x, rfl, hl, hm, hz, hc, hw⟩
  · exact ⟨[], rfl, by simp [maxLen], by simp, by simp⟩
  · refine ⟨zs.take len, by simp; omega, by simp; omega, fun hp => ?_, fun y hy => hw y (List.mem_of_mem_take hy)⟩
    have hlen : (zs.take len).length = len := by simp; omega
    rw [hlen] at hp ⊢
    have h0 := hc 0 (by omega)
    obtain ⟨b, off, spot⟩ := x
    have hspot : spot = none := by simpa [Addr.add] using World.cell?_spot h0
    subst hspot
    refine ⟨b, off, rfl, fun i hi => ?_⟩
    have := hc i (by omega)
    rw [add_none] at this
    rw [this]
    simp [hi]

end Go.Mem
