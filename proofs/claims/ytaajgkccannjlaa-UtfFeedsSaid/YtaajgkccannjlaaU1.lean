/- What bytes say, byte by byte and by sequences, as plain functions. -/
import Derived.WalkKit
namespace Go.Utf
def bad : Int := 65533
def size (a : Int) : Nat := if a ≤ 127 then 1 else if 194 ≤ a ∧ a ≤ 223 then 2 else if 224 ≤ a ∧ a ≤ 239 then 3 else if 240 ≤ a ∧ a ≤ 244 then 4 else 0
def lo (a : Int) : Int := if a = 224 then 160 else if a = 240 then 144 else 128
def hi (a : Int) : Int := if a = 237 then 159 else if a = 244 then 143 else 191
/-- May x stand at place k of a sequence that begins with a? -/
def okAt (a : Int) (k : Nat) (x : Int) : Prop := if k = 1 then lo a ≤ x ∧ x ≤ hi a else 128 ≤ x ∧ x ≤ 191
instance (a : Int) (k : Nat) (x : Int) : Decidable (okAt a k x) := by unfold okAt; infer_instance
def more (a : Int) : Nat → Nat → List Int → Nat
  | _, 0, _ => 0
  | _, _ + 1, [] => 0
  | k, n + 1, x :: l => if okAt a k x then more a (k + 1) n l + 1 else 0
def begins : List Int → Nat
  | [] => 0
  | a :: l => if size a = 0 then 0 else more a 1 (size a - 1) l + 1
def head (a : Int) : Int := if size a = 1 then a else if size a = 2 then a - 192 else if size a = 3 then a - 224 else a - 240
def val : Int → List Int → Int
  | r, [] => r
  | r, x :: l => val (r * 64 + (x - 128)) l
def value : List Int → Int
  | [] => 0
  | a :: l => val (head a) l
def put (x : Int) (p : List Int × Nat) : List Int × Nat := (x :: p.1, p.2)
def sayF : Nat → List Int → List Int × Nat
  | 0, _ => ([], 0)
  | _ + 1, [] => ([], 0)
  | f + 1, a :: l =>
    if begins (a :: l) = 0 then put bad (sayF f l)
    else if begins (a :: l) = size a then put (value ((a :: l).take (begins (a :: l)))) (sayF f ((a :: l).drop (begins (a :: l))))
    else if begins (a :: l) = (a :: l).length then ([], begins (a :: l))
    else put bad (sayF f ((a :: l).drop (begins (a :: l))))
def say (l : List Int) : List Int × Nat := sayF l.length l
def decode (l : List Int) : List Int := if 0 < (say l).2 then (say l).1 ++ [bad] else (say l).1

/-! ## Byte by byte -/
structure D where
  opn : Int
  left : Int
  r : Int
  lo : Int
  hi : Int
def D.new : D := ⟨0, 0, 0, 0, 0⟩
def first (b : Int) : D × List Int :=
  if b < 128 then (⟨0, 0, 0, 128, 191⟩, [b])
  else if b < 194 ∨ 244 < b then (⟨0, 0, 0, 128, 191⟩, [bad])
  else if b < 224 then (⟨1, 1, b % 32, lo b, hi b⟩, [])
  else if b < 240 then (⟨1, 2, b % 16, lo b, hi b⟩, [])
  else (⟨1, 3, b % 8, lo b, hi b⟩, [])
def feed (d : D) (b : Int) : D × List Int :=
  if d.opn = 0 then first b
  else if b < d.lo ∨ d.hi < b then ((first b).1, bad :: (first b).2)
  else if 0 < d.left - 1 then (⟨d.opn + 1, d.left - 1, d.r * 64 + b % 64, 128, 191⟩, [])
  else (⟨0, d.left - 1, d.r * 64 + b % 64, 128, 191⟩, [d.r * 64 + b % 64])
def run : D → List Int → D × List Int
  | d, [] => (d, [])
  | d, x :: l => ((run (feed d x).1 l).1, (feed d x).2 ++ (run (feed d x).1 l).2)
theorem run_append : ∀ (l m : List Int) (d : D), run d (l ++ m) = ((run (run d l).1 m).1, (run d l).2 ++ (run (run d l).1 m).2)
  | [], m, d => by simp [run]
  | x :: l, m, d => by simp [run, run_append l m, List.append_assoc]
theorem run_snoc (l : List Int) (x : Int) (d : D) : run d (l ++ [x]) = ((feed (run d l).1 x).1, (run d l).2 ++ (feed (run d l).1 x).2) := by
  rw [run_append]; simp [run]
theorem run_ground (l : List Int) (d e : D) (hd : d.opn = 0) (he : e.opn = 0) (hl : l ≠ []) : run d l = run e l := by
  cases l with
  | nil => exact (hl rfl).elim
  | cons x l =>
    have : feed d x = feed e x := by unfold feed; rw [if_pos hd, if_pos he]
    simp only [run, this]
theorem run_ground2 (l : List Int) (d e : D) (hd : d.opn = 0) (he : e.opn = 0) : (run d l).2 = (run e l).2 ∧ (run d l).1.opn = (run e l).1.opn := by
  by_cases h : l = []
  · subst h; exact ⟨rfl, hd.trans he.symm⟩
  · rw [run_ground l d e hd he h]; exact ⟨rfl, rfl⟩

/-- What is open: k bytes of a sequence that begins with a, of the worth r. -/
structure Opened (a : Int) (k : Nat) (r : Int) (d : D) : Prop where
  k1 : 1 ≤ k
  k2 : k < size a
  opn : d.opn = k
  left : d.left = size a - k
  r : d.r = r
  lo : d.lo = if k = 1 then Utf.lo a else 128
  hi : d.hi = if k = 1 then Utf.hi a else 191
theorem size_cases (a : Int) : (a ≤ 127 ∧ size a = 1) ∨ (194 ≤ a ∧ a ≤ 223 ∧ size a = 2) ∨ (224 ≤ a ∧ a ≤ 239 ∧ size a = 3) ∨ (240 ≤ a ∧ a ≤ 244 ∧ size a = 4) ∨ ((127 < a ∧ a < 194 ∨ 244 < a) ∧ size a = 0) := by
  unfold size; repeat' split
  all_goals omega
theorem size_le (a : Int) : size a ≤ 4 := by have := size_cases a; omega
theorem lo_bd (a : Int) : 128 ≤ lo a ∧ hi a ≤ 191 := by
  unfold lo hi; repeat' split
  all_goals omega
theorem first_open (a : Int) (h : 1 < size a) : (first a).2 = [] ∧ Opened a 1 (head a) (first a).1 := by
  rcases size_cases a with ⟨h1, h2⟩ | ⟨h1, h1', h2⟩ | ⟨h1, h1', h2⟩ | ⟨h1, h1', h2⟩ | ⟨_, h2⟩
  · omega
  · unfold first
    rw [if_neg (by omega), if_neg (by omega), if_pos (by omega)]
    exact ⟨rfl, by omega, by omega, rfl, by rw [h2]; rfl, by unfold head; rw [if_neg (by omega), if_pos h2]; show a % 32 = _; omega, by rw [if_pos rfl], by rw [if_pos rfl]⟩
  · unfold first
    rw [if_neg (by omega), if_neg (by omega), if_neg (by omega), if_pos (by omega)]
    exact ⟨rfl, by omega, by omega, rfl, by rw [h2]; rfl, by unfold head; rw [if_neg (by omega), if_neg (by omega), if_pos h2]; show a % 16 = _; omega, by rw [if_pos rfl], by rw [if_pos rfl]⟩
  · unfold first
    rw [if_neg (by omega), if_neg (by omega), if_neg (by omega), if_neg (by omega)]
    exact ⟨rfl, by omega, by omega, rfl, by rw [h2]; rfl, by unfold head; rw [if_neg (by omega), if_neg (by omega), if_neg (by omega)]; show a % 8 = _; omega, by rw [if_pos rfl], by rw [if_pos rfl]⟩
  · omega
theorem first_one (a : Int) (h : size a = 1) : (first a).2 = [a] ∧ (first a).1.opn = 0 := by
  rcases size_cases a with ⟨h1, h2⟩ | ⟨h1, h1', h2⟩ | ⟨h1, h1', h2⟩ | ⟨h1, h1', h2⟩ | ⟨_, h2⟩
  · unfold first; rw [if_pos (by omega)]; exact ⟨rfl, rfl⟩
  all_goals omega
theorem first_bad (a : Int) (h : size a = 0) : (first a).2 = [bad] ∧ (first a).1.opn = 0 := by
  rcases size_cases a with ⟨h1, h2⟩ | ⟨h1, h1', h2⟩ | ⟨h1, h1', h2⟩ | ⟨h1, h1', h2⟩ | ⟨h1, h2⟩
  · omega
  · omega
  · omega
  · omega
  · unfold first; rw [if_neg (by omega), if_pos (by omega)]; exact ⟨rfl, rfl⟩
theorem Opened.ok {a r : Int} {k : Nat} {d : D} (h : Opened a k r d) (x : Int) : okAt a k x ↔ ¬(x < d.lo ∨ d.hi < x) := by
  rw [h.lo, h.hi]; unfold okAt
  split <;> omega
theorem Opened.x_bd {a : Int} {k : Nat} {x : Int} (h : okAt a k x) : 128 ≤ x ∧ x ≤ 191 := by
  unfold okAt at h
  have := lo_bd a
  split at h <;> omega
/-- One more byte of a sequence. -/
theorem Opened.next {a r : Int} {k : Nat} {d : D} (h : Opened a k r d) {x : Int} (hx : okAt a k x) (hk : k + 1 < size a) : (feed d x).2 = [] ∧ Opened a (k + 1) (r * 64 + (x - 128)) (feed d x).1 := by
  have hb := Opened.x_bd hx
  have h1 := h.k1
  unfold feed
  rw [if_neg (by rw [h.opn]; omega), if_neg ((h.ok x).1 hx), if_pos (by rw [h.left]; omega)]
  exact ⟨rfl, by omega, hk, by show d.opn + 1 = _; rw [h.opn]; omega, by show d.left - 1 = _; rw [h.left]; omega, by show d.r * 64 + x % 64 = _; rw [h.r]; omega, by rw [if_neg (by omega)], by rw [if_neg (by omega)]⟩
theorem Opened.last {a r : Int} {k : Nat} {d : D} (h : Opened a k r d) {x : Int} (hx : okAt a k x) (hk : k + 1 = size a) : (feed d x).2 = [r * 64 + (x - 128)] ∧ (feed d x).1.opn = 0 := by
  have hb := Opened.x_bd hx
  have h1 := h.k1
  unfold feed
  rw [if_neg (by rw [h.opn]; omega), if_neg ((h.ok x).1 hx), if_neg (by rw [h.left]; omega), h.r]
  exact ⟨by rw [show x % 64 = x - 128 from by omega], rfl⟩
theorem Opened.cut {a r : Int} {k : Nat} {d : D} (h : Opened a k r d) {x : Int} (hx : ¬ okAt a k x) : (feed d x).2 = bad :: (first x).2 ∧ (feed d x).1 = (first x).1 := by
  have h1 := h.k1
  unfold feed
  rw [if_neg (by rw [h.opn]; omega), if_pos (Decidable.byContradiction fun h' => hx ((h.ok x).2 h'))]
  exact ⟨rfl, rfl⟩
theorem feed_ground {d : D} (h : d.opn = 0) (x : Int) : feed d x = first x := by unfold feed; rw [if_pos h]
/-- The rest of a sequence. -/
theorem Opened.run (a : Int) : ∀ (l : List Int) (k : Nat) (r : Int) (d : D), Opened a k r d →
    (more a k (size a - k) l = size a - k ∧ (Utf.run d l).2 = val r (l.take (more a k (size a - k) l)) :: (Utf.run .new (l.drop (more a k (size a - k) l))).2 ∧ (Utf.run d l).1.opn = (Utf.run .new (l.drop (more a k (size a - k) l))).1.opn) ∨
    (more a k (size a - k) l < size a - k ∧ more a k (size a - k) l = l.length ∧ (Utf.run d l).2 = [] ∧ (Utf.run d l).1.opn = (k + l.length : Nat)) ∨
    (more a k (size a - k) l < size a - k ∧ more a k (size a - k) l < l.length ∧ (Utf.run d l).2 = bad :: (Utf.run .new (l.drop (more a k (size a - k) l))).2 ∧ (Utf.run d l).1.opn = (Utf.run .new (l.drop (more a k (size a - k) l))).1.opn)
  | [], k, r, d, h => by
    have h2 := h.k2
    obtain ⟨n, hn⟩ : ∃ n, size a - k = n + 1 := ⟨size a - k - 1, by omega⟩
    rw [hn]
    exact .inr (.inl ⟨by simp [more], rfl, rfl, by simpa [Utf.run] using h.opn⟩)
  | x :: l, k, r, d, h => by
    have h2 := h.k2
    obtain ⟨n, hn⟩ : ∃ n, size a - k = n + 1 := ⟨size a - k - 1, by omega⟩
    rw [hn]
    by_cases hx : okAt a k x
    · have e : more a k (n + 1) (x :: l) = more a (k + 1) n l + 1 := by simp [more, hx]
      rw [e]
      simp only [List.take_succ_cons, List.drop_succ_cons, List.length_cons, val]
      by_cases hk : k + 1 < size a
      · obtain ⟨f1, f2⟩ := h.next hx hk
        have hn2 : size a - (k + 1) = n := by omega
        have ih := Opened.run a l (k + 1) _ _ f2
        rw [hn2] at ih
        simp only [Utf.run, f1, List.nil_append]
        rcases ih with ⟨i1, i2, i3⟩ | ⟨i1, i2, i3, i4⟩ | ⟨i1, i2, i3, i4⟩
        · exact .inl ⟨by omega, i2, i3⟩
        · exact .inr (.inl ⟨by omega, by omega, i3, by rw [i4]; omega⟩)
        · exact .inr (.inr ⟨by omega, by omega, i3, i4⟩)
      · obtain rfl : n = 0 := by omega
        obtain ⟨f1, f2⟩ := h.last hx (by omega)
        have e0 : more a (k + 1) 0 l = 0 := by unfold more; rfl
        rw [e0]
        simp only [Utf.run, f1, List.take_zero, List.drop_zero, val]
        obtain ⟨g1, g2⟩ := run_ground2 l _ .new f2 rfl
        exact .inl ⟨trivial, by rw [g1]; rfl, g2⟩
    · have e : more a k (n + 1) (x :: l) = 0 := by simp [more, hx]
      rw [e]
      obtain ⟨f1, f2⟩ := h.cut hx
      refine .inr (.inr ⟨by omega, by simp, ?_, ?_⟩)
      · simp only [Utf.run, f1, f2, List.drop_zero, feed_ground (d := .new) rfl]; rfl
      · simp only [Utf.run, f2, List.drop_zero, feed_ground (d := .new) rfl]
theorem more_le (a : Int) : ∀ (l : List Int) (k n : Nat), more a k n l ≤ n ∧ more a k n l ≤ l.length
  | _, _, 0 => by simp [more]
  | [], _, _ + 1 => by simp [more]
  | x :: l, k, n + 1 => by
    have := more_le a l (k + 1) n
    unfold more; split
    · simp only [List.length_cons]; omega
    · simp
theorem say_run : ∀ (f : Nat) (l : List Int), l.length ≤ f → (Utf.run .new l).2 = (sayF f l).1 ∧ (Utf.run .new l).1.opn = ((sayF f l).2 : Nat)
  | 0, l, h => by
    obtain rfl : l = [] := List.length_eq_zero_iff.1 (by omega)
    exact ⟨rfl, rfl⟩
  | f + 1, [], _ => ⟨rfl, rfl⟩
  | f + 1, a :: l, h => by
    simp only [List.length_cons] at h
    have hg := feed_ground (d := .new) rfl a
    by_cases h0 : size a = 0
    · have e : begins (a :: l) = 0 := by simp [begins, h0]
      obtain ⟨f1, f2⟩ := first_bad a h0
      obtain ⟨g1, g2⟩ := run_ground2 l _ .new f2 rfl
      obtain ⟨i1, i2⟩ := say_run f l (by omega)
      simp only [sayF, e, if_pos, Utf.run, hg, f1, put]
      exact ⟨by rw [g1, i1]; rfl, by rw [g2, i2]⟩
    have e : begins (a :: l) = more a 1 (size a - 1) l + 1 := by simp [begins, h0]
    have hm := more_le a l 1 (size a - 1)
    by_cases h1 : size a = 1
    · obtain ⟨f1, f2⟩ := first_one a h1
      obtain ⟨g1, g2⟩ := run_ground2 l _ .new f2 rfl
      obtain ⟨i1, i2⟩ := say_run f l (by omega)
      have e1 : begins (a :: l) = 1 := by omega
      simp only [sayF, e1, h1, if_pos, Utf.run, hg, f1, put, List.take_succ_cons, List.take_zero, List.drop_succ_cons, List.drop_zero]
      rw [if_neg (by decide)]
      have hv : value [a] = a := by simp [value, val, head, h1]
      exact ⟨by rw [g1, i1, hv]; rfl, by rw [g2, i2]⟩
    · obtain ⟨f1, f2⟩ := first_open a (by omega)
      rw [show sayF (f + 1) (a :: l) = if begins (a :: l) = 0 then put bad (sayF f l)
        else if begins (a :: l) = size a then put (value ((a :: l).take (begins (a :: l)))) (sayF f ((a :: l).drop (begins (a :: l))))
        else if begins (a :: l) = (a :: l).length then ([], begins (a :: l)) else put bad (sayF f ((a :: l).drop (begins (a :: l)))) from rfl]
      rw [e, if_neg (by omega)]
      simp only [Utf.run, hg, f1, List.nil_append, List.take_succ_cons, List.drop_succ_cons, List.length_cons]
      rcases Opened.run a l 1 _ _ f2 with ⟨i1, i2, i3⟩ | ⟨i1, i2, i3, i4⟩ | ⟨i1, i2, i3, i4⟩
      · rw [if_pos (by omega)]
        obtain ⟨j1, j2⟩ := say_run f (l.drop (more a 1 (size a - 1) l)) (by simp; omega)
        exact ⟨by rw [i2, j1]; rfl, by rw [i3, j2]; rfl⟩
      · rw [if_neg (by omega), if_pos (by omega)]
        exact ⟨i3, by rw [i4]; simp only; omega⟩
      · rw [if_neg (by omega), if_neg (by omega)]
        obtain ⟨j1, j2⟩ := say_run f (l.drop (more a 1 (size a - 1) l)) (by simp; omega)
        exact ⟨by rw [i3, j1]; rfl, by rw [i4, j2]; rfl⟩
theorem run_say (l : List Int) (d : D) (h : d.opn = 0) : (Utf.run d l).2 = (say l).1 ∧ (Utf.run d l).1.opn = ((say l).2 : Nat) := by
  obtain ⟨g1, g2⟩ := run_ground2 l d .new h rfl
  obtain ⟨i1, i2⟩ := say_run l.length l (Nat.le_refl _)
  exact ⟨g1.trans i1, g2.trans i2⟩
end Go.Utf
namespace Go.Utf
/-! ## Runes as bytes -/
def valid (r : Int) : Prop := (0 ≤ r ∧ r ≤ 1114111) ∧ ¬(55296 ≤ r ∧ r ≤ 57343)
instance (r : Int) : Decidable (valid r) := inferInstanceAs (Decidable (_ ∧ _))
def enc (r : Int) : List Int :=
  if ¬ valid r then [239, 191, 189]
  else if r < 128 then [r]
  else if r < 2048 then [192 + r / 64, 128 + r % 64]
  else if r < 65536 then [224 + r / 4096, 128 + r / 64 % 64, 128 + r % 64]
  else [240 + r / 262144, 128 + r / 4096 % 64, 128 + r / 64 % 64, 128 + r % 64]
def fix (r : Int) : Int := if valid r then r else bad
theorem run2 (a x : Int) (d : D) (hd : d.opn = 0) (hs : size a = 2) (h1 : okAt a 1 x) : (run d [a, x]).2 = [head a * 64 + (x - 128)] ∧ (run d [a, x]).1.opn = 0 := by
  obtain ⟨f1, f2⟩ := first_open a (by omega)
  obtain ⟨g1, g2⟩ := f2.last h1 (by omega)
  simp only [run, feed_ground hd, f1, g1, List.nil_append, List.append_nil]
  exact ⟨trivial, g2⟩
theorem run3 (a x y : Int) (d : D) (hd : d.opn = 0) (hs : size a = 3) (h1 : okAt a 1 x) (h2 : okAt a 2 y) : (run d [a, x, y]).2 = [(head a * 64 + (x - 128)) * 64 + (y - 128)] ∧ (run d [a, x, y]).1.opn = 0 := by
  obtain ⟨f1, f2⟩ := first_open a (by omega)
  obtain ⟨g1, g2⟩ := f2.next h1 (by omega)
  obtain ⟨k1, k2⟩ := g2.last h2 (by omega)
  simp only [run, feed_ground hd, f1, g1, k1, List.nil_append, List.append_nil]
  exact ⟨trivial, k2⟩
theorem run4 (a x y z : Int) (d : D) (hd : d.opn = 0) (hs : size a = 4) (h1 : okAt a 1 x) (h2 : okAt a 2 y) (h3 : okAt a 3 z) : (run d [a, x, y, z]).2 = [((head a * 64 + (x - 128)) * 64 + (y - 128)) * 64 + (z - 128)] ∧ (run d [a, x, y, z]).1.opn = 0 := by
  obtain ⟨f1, f2⟩ := first_open a (by omega)
  obtain ⟨g1, g2⟩ := f2.next h1 (by omega)
  obtain ⟨k1, k2⟩ := g2.next h2 (by omega)
  obtain ⟨m1, m2⟩ := k2.last h3 (by omega)
  simp only [run, feed_ground hd, f1, g1, k1, m1, List.nil_append, List.append_nil]
  exact ⟨trivial, m2⟩
theorem size1 {a : Int} (h : a ≤ 127) : size a = 1 := by unfold size; rw [if_pos h]
theorem size2 {a : Int} (h : 194 ≤ a ∧ a ≤ 223) : size a = 2 := by unfold size; rw [if_neg (by omega), if_pos h]
theorem size3 {a : Int} (h : 224 ≤ a ∧ a ≤ 239) : size a = 3 := by unfold size; rw [if_neg (by omega), if_neg (by omega), if_pos h]
theorem size4 {a : Int} (h : 240 ≤ a ∧ a ≤ 244) : size a = 4 := by unfold size; rw [if_neg (by omega), if_neg (by omega), if_neg (by omega), if_pos h]
theorem head2 {a : Int} (h : size a = 2) : head a = a - 192 := by unfold head; rw [if_neg (by omega), if_pos h]
theorem head3 {a : Int} (h : size a = 3) : head a = a - 224 := by unfold head; rw [if_neg (by omega), if_neg (by omega), if_pos h]
theorem head4 {a : Int} (h : size a = 4) : head a = a - 240 := by unfold head; rw [if_neg (by omega), if_neg (by omega), if_neg (by omega)]
theorem ok1 (a x : Int) : okAt a 1 x ↔ lo a ≤ x ∧ x ≤ hi a := by unfold okAt; rw [if_pos rfl]
theorem ok2 (a : Int) (k : Nat) (x : Int) (h : k ≠ 1) : okAt a k x ↔ 128 ≤ x ∧ x ≤ 191 := by unfold okAt; rw [if_neg h]
theorem lohi (a : Int) : (a = 224 ∧ lo a = 160 ∧ hi a = 191) ∨ (a = 240 ∧ lo a = 144 ∧ hi a = 191) ∨ (a = 237 ∧ lo a = 128 ∧ hi a = 159) ∨ (a = 244 ∧ lo a = 128 ∧ hi a = 143) ∨ (a ≠ 224 ∧ a ≠ 240 ∧ a ≠ 237 ∧ a ≠ 244 ∧ lo a = 128 ∧ hi a = 191) := by
  unfold lo hi
  by_cases h1 : a = 224
  · subst h1; simp
  by_cases h2 : a = 240
  · subst h2; simp
  by_cases h3 : a = 237
  · subst h3; simp
  by_cases h4 : a = 244
  · subst h4; simp
  simp [h1, h2, h3, h4]
theorem run_enc (r : Int) (d : D) (hd : d.opn = 0) : (run d (enc r)).2 = [fix r] ∧ (run d (enc r)).1.opn = 0 := by
  unfold enc fix
  by_cases hv : valid r
  · rw [if_neg (by simpa using hv), if_pos hv]
    unfold valid at hv
    split
    · have hs : size r = 1 := size1 (by omega)
      obtain ⟨f1, f2⟩ := first_one r hs
      simp only [run, feed_ground hd, f1, List.append_nil]
      exact ⟨trivial, f2⟩
    split
    · have hs : size (192 + r / 64) = 2 := size2 (by omega)
      have hl := lohi (192 + r / 64)
      have := run2 _ (128 + r % 64) d hd hs ((ok1 _ _).2 (by omega))
      rw [head2 hs, show (192 + r / 64 - 192) * 64 + (128 + r % 64 - 128) = r from by omega] at this
      exact this
    split
    · have hs : size (224 + r / 4096) = 3 := size3 (by omega)
      have hl := lohi (224 + r / 4096)
      have := run3 _ (128 + r / 64 % 64) (128 + r % 64) d hd hs ((ok1 _ _).2 (by omega)) ((ok2 _ _ _ (by decide)).2 (by omega))
      rw [head3 hs, show ((224 + r / 4096 - 224) * 64 + (128 + r / 64 % 64 - 128)) * 64 + (128 + r % 64 - 128) = r from by omega] at this
      exact this
    · have hs : size (240 + r / 262144) = 4 := size4 (by omega)
      have hl := lohi (240 + r / 262144)
      have := run4 _ (128 + r / 4096 % 64) (128 + r / 64 % 64) (128 + r % 64) d hd hs ((ok1 _ _).2 (by omega)) ((ok2 _ _ _ (by decide)).2 (by omega)) ((ok2 _ _ _ (by decide)).2 (by omega))
      rw [head4 hs, show (((240 + r / 262144 - 240) * 64 + (128 + r / 4096 % 64 - 128)) * 64 + (128 + r / 64 % 64 - 128)) * 64 + (128 + r % 64 - 128) = r from by omega] at this
      exact this
  · rw [if_pos hv, if_neg hv]
    exact run3 239 191 189 d hd (by decide) (by decide) (by decide)
theorem run_encs : ∀ (l : List Int) (d : D), d.opn = 0 → (run d (l.flatMap enc)).2 = l.map fix ∧ (run d (l.flatMap enc)).1.opn = 0
  | [], d, h => ⟨rfl, h⟩
  | r :: l, d, h => by
    obtain ⟨e1, e2⟩ := run_enc r d h
    obtain ⟨i1, i2⟩ := run_encs l _ e2
    rw [List.flatMap_cons, run_append]
    exact ⟨by simp only [e1, i1]; rfl, i2⟩

/-! ## All of them -/
def dec (l : List Int) : List Int := (run .new l).2 ++ if (run .new l).1.opn = 0 then [] else [bad]
theorem dec_decode (l : List Int) : dec l = decode l := by
  unfold dec decode
  obtain ⟨h1, h2⟩ := run_say l .new rfl
  rw [h1, h2]
  by_cases h : 0 < (say l).2
  · rw [if_neg (by omega), if_pos h]
  · rw [if_pos (by omega), if_neg h, List.append_nil]
theorem dec_encs (l : List Int) : dec (l.flatMap enc) = l.map fix := by
  unfold dec
  obtain ⟨h1, h2⟩ := run_encs l .new rfl
  rw [h1, if_pos h2, List.append_nil]
theorem enc_len (r : Int) : 1 ≤ (enc r).length ∧ (enc r).length ≤ 4 := by
  unfold enc
  repeat' split
  all_goals simp
theorem enc_byte (r : Int) : ∀ x ∈ enc r, 0 ≤ x ∧ x < 256 := by
  unfold enc valid
  repeat' split
  all_goals (intro x hx; simp only [List.mem_cons, List.not_mem_nil, or_false] at hx; omega)
/-- What every state of the decoder keeps. -/
def inv (d : D) : Prop := d.opn = 0 ∨ (1 ≤ d.opn ∧ 128 ≤ d.lo)
theorem first_inv (x : Int) : inv (first x).1 ∧ (first x).2.length ≤ 1 ∧ ((first x).1.opn ≠ 0 → (first x).2 = []) := by
  have := lo_bd x
  unfold first
  repeat' split
  all_goals simp [inv]
  all_goals omega
theorem feed_inv {d : D} (h : inv d) (x : Int) : inv (feed d x).1 := by
  unfold feed
  split
  · exact (first_inv x).1
  split
  · exact (first_inv x).1
  rename_i h0 _
  rcases h with h | ⟨h1, h2⟩
  · exact (h0 h).elim
  split
  · exact .inr ⟨by show 1 ≤ d.opn + 1; omega, by show (128 : Int) ≤ 128; omega⟩
  · exact .inl rfl
theorem run_inv : ∀ (l : List Int) (d : D), inv d → inv (run d l).1
  | [], _, h => h
  | x :: l, d, h => run_inv l _ (feed_inv h x)
def busy (d : D) : Nat := if d.opn = 0 then 0 else 1
theorem busy0 {d : D} (h : d.opn = 0) : busy d = 0 := by unfold busy; rw [if_pos h]
theorem busy1 {d : D} (h : ¬ d.opn = 0) : busy d = 1 := by unfold busy; rw [if_neg h]
theorem busy_le (d : D) : busy d ≤ 1 := by unfold busy; split <;> omega
theorem feed_len (d : D) (x : Int) : (feed d x).2.length + busy (feed d x).1 ≤ busy d + 1 := by
  have h1 := first_inv x
  have h2 : (first x).2.length + busy (first x).1 ≤ 1 := by
    by_cases h : (first x).1.opn = 0
    · rw [busy0 h]; omega
    · rw [busy1 h, h1.2.2 h]; simp
  unfold feed
  split
  · rename_i h; rw [busy0 h]; omega
  rename_i h
  rw [busy1 h]
  split
  · simp only [List.length_cons]; omega
  split
  · have := busy_le (⟨d.opn + 1, d.left - 1, d.r * 64 + x % 64, 128, 191⟩ : D)
    simp only [List.length_nil]; omega
  · rw [busy0 (by rfl)]; simp
theorem run_len : ∀ (l : List Int) (d : D), (run d l).2.length + busy (run d l).1 ≤ busy d + l.length
  | [], d => by simp [run]
  | x :: l, d => by
    have h1 := feed_len d x
    have h2 := run_len l (feed d x).1
    simp only [run, List.length_append, List.length_cons]
    omega
theorem dec_len (l : List Int) : (dec l).length ≤ l.length := by
  have := run_len l .new
  rw [busy0 (show D.new.opn = 0 from rfl)] at this
  unfold dec
  rw [List.length_append]
  by_cases h : (run .new l).1.opn = 0
  · rw [busy0 h] at this; rw [if_pos h, List.length_nil]; omega
  · rw [busy1 h] at this; rw [if_neg h, List.length_singleton]; omega
theorem feed_low {d : D} (h : inv d) (c : Int) (hc : c < 128) : (feed d c).2 = (if d.opn = 0 then [] else [bad]) ++ [c] ∧ (feed d c).1.opn = 0 := by
  have hf : first c = (⟨0, 0, 0, 128, 191⟩, [c]) := by unfold first; rw [if_pos hc]
  unfold feed
  split
  · rw [hf]; exact ⟨rfl, rfl⟩
  · rename_i h0
    rcases h with h | ⟨h1, h2⟩
    · exact (h0 h).elim
    · rw [if_pos (by omega), hf]; exact ⟨rfl, rfl⟩
theorem dec_anew (a b : List Int) (c : Int) (hc : c < 128) : dec (a ++ [c] ++ b) = dec a ++ [c] ++ dec b := by
  have hi := run_inv a .new (.inl rfl)
  obtain ⟨f1, f2⟩ := feed_low hi c hc
  obtain ⟨g1, g2⟩ := run_ground2 b (feed (run .new a).1 c).1 .new f2 rfl
  unfold dec
  rw [List.append_assoc, run_append, show [c] ++ b = c :: b from rfl]
  simp only [run, f1, g1, g2]
  simp [List.append_assoc]
theorem enc_value2 (a x : Int) (hs : size a = 2) (h1 : okAt a 1 x) : enc (head a * 64 + (x - 128)) = [a, x] := by
  rw [ok1] at h1
  have hl := lohi a
  have hc := size_cases a
  rw [head2 hs]
  unfold enc valid
  rw [if_neg (by omega), if_neg (by omega), if_pos (by omega), show 192 + ((a - 192) * 64 + (x - 128)) / 64 = a from by omega, show 128 + ((a - 192) * 64 + (x - 128)) % 64 = x from by omega]
theorem enc_value3 (a x y : Int) (hs : size a = 3) (h1 : okAt a 1 x) (h2 : okAt a 2 y) : enc ((head a * 64 + (x - 128)) * 64 + (y - 128)) = [a, x, y] := by
  rw [ok1] at h1
  rw [ok2 _ _ _ (by decide)] at h2
  have hl := lohi a
  have hc := size_cases a
  rw [head3 hs]
  unfold enc valid
  rw [if_neg (by omega), if_neg (by omega), if_neg (by omega), if_pos (by omega), show 224 + (((a - 224) * 64 + (x - 128)) * 64 + (y - 128)) / 4096 = a from by omega, show 128 + (((a - 224) * 64 + (x - 128)) * 64 + (y - 128)) / 64 % 64 = x from by omega,
    show 128 + (((a - 224) * 64 + (x - 128)) * 64 + (y - 128)) % 64 = y from by omega]
theorem enc_value4 (a x y z : Int) (hs : size a = 4) (h1 : okAt a 1 x) (h2 : okAt a 2 y) (h3 : okAt a 3 z) : enc (((head a * 64 + (x - 128)) * 64 + (y - 128)) * 64 + (z - 128)) = [a, x, y, z] := by
  rw [ok1] at h1
  rw [ok2 _ _ _ (by decide)] at h2 h3
  have hl := lohi a
  have hc := size_cases a
  rw [head4 hs]
  unfold enc valid
  rw [if_neg (by omega), if_neg (by omega), if_neg (by omega), if_neg (by omega), show 240 + ((((a - 240) * 64 + (x - 128)) * 64 + (y - 128)) * 64 + (z - 128)) / 262144 = a from by omega, show 128 + ((((a - 240) * 64 + (x - 128)) * 64 + (y - 128)) * 64 + (z - 128)) / 4096 % 64 = x from by omega,
    show 128 + ((((a - 240) * 64 + (x - 128)) * 64 + (y - 128)) * 64 + (z - 128)) / 64 % 64 = y from by omega, show 128 + ((((a - 240) * 64 + (x - 128)) * 64 + (y - 128)) * 64 + (z - 128)) % 64 = z from by omega]
theorem more_full (a : Int) : ∀ (n k : Nat) (l : List Int), more a k n l = n → ∃ q r, l = q ++ r ∧ q.length = n ∧ ∀ i (h : i < q.length), okAt a (k + i) q[i]
  | 0, _, l, _ => ⟨[], l, rfl, rfl, fun i h => by simp at h⟩
  | n + 1, k, [], h => by simp [more] at h
  | n + 1, k, x :: l, h => by
    unfold more at h
    split at h
    · rename_i hx
      obtain ⟨q, r, e, hl, hq⟩ := more_full a n (k + 1) l (by omega)
      refine ⟨x :: q, r, by rw [e]; rfl, by simp [hl], fun i hi => ?_⟩
      cases i with
      | zero => exact hx
      | succ i => have := hq i (by simpa using hi); rw [show k + 1 + i = k + (i + 1) from by omega] at this; simpa using this
    · omega
theorem say_back : ∀ (f : Nat) (l : List Int), l.length ≤ f → (∀ x ∈ l, 0 ≤ x) → bad ∉ (sayF f l).1 → (sayF f l).2 = 0 → (sayF f l).1.flatMap enc = l
  | 0, l, h, _, _, _ => by
    obtain rfl : l = [] := List.length_eq_zero_iff.1 (by omega)
    rfl
  | f + 1, [], _, _, _, _ => rfl
  | f + 1, a :: l, h, hb, hn, ho => by
    simp only [List.length_cons] at h
    unfold sayF at hn ho ⊢
    split at hn
    · simp [put] at hn
    rename_i h0
    rw [if_neg h0] at ho ⊢
    split at hn
    · rename_i h1
      rw [if_pos h1] at ho ⊢
      have hs0 : size a ≠ 0 := by omega
      have e : begins (a :: l) = more a 1 (size a - 1) l + 1 := by simp [begins, hs0]
      have hm : more a 1 (size a - 1) l = size a - 1 := by omega
      obtain ⟨q, r, el, hl, hq⟩ := more_full a (size a - 1) 1 l hm
      rw [h1]
      rw [h1] at hn ho
      have ed : (a :: l).drop (size a) = r := by
        rw [show size a = (size a - 1) + 1 from by omega, List.drop_succ_cons, el, ← hl, List.drop_left]
      have et : (a :: l).take (size a) = a :: q := by
        rw [show size a = (size a - 1) + 1 from by omega, List.take_succ_cons, el, ← hl, List.take_left]
      rw [ed] at hn ho ⊢
      rw [et] at hn ho ⊢
      have hrl : r.length ≤ f := by rw [el] at h; simp at h; omega
      have ih := say_back f r hrl (fun x hx => hb x (by rw [el]; simp [hx])) (fun hx => hn (by simp [put, hx])) ho
      show (value (a :: q) :: (sayF f r).1).flatMap enc = _
      rw [List.flatMap_cons, ih, el, ← List.cons_append]
      congr 1
      show enc (val (head a) q) = _
      rcases size_cases a with ⟨c1, c2⟩ | ⟨_, _, c2⟩ | ⟨_, _, c2⟩ | ⟨_, _, c2⟩ | ⟨_, c2⟩
      · obtain rfl : q = [] := List.length_eq_zero_iff.1 (by omega)
        have ha := hb a (by simp)
        unfold val head
        rw [if_pos c2]
        unfold enc valid
        rw [if_neg (by omega), if_pos (by omega)]
      · match q, hl, hq with
        | [x], _, hq => exact enc_value2 a x c2 (hq 0 (by simp))
        | [], hl, _ => simp at hl; omega
        | _ :: _ :: _, hl, _ => simp at hl; omega
      · match q, hl, hq with
        | [x, y], _, hq => exact enc_value3 a x y c2 (hq 0 (by simp)) (hq 1 (by simp))
        | [], hl, _ => simp at hl; omega
        | [_], hl, _ => simp at hl; omega
        | _ :: _ :: _ :: _, hl, _ => simp at hl; omega
      · match q, hl, hq with
        | [x, y, z], _, hq => exact enc_value4 a x y z c2 (hq 0 (by simp)) (hq 1 (by simp)) (hq 2 (by simp))
        | [], hl, _ => simp at hl; omega
        | [_], hl, _ => simp at hl; omega
        | [_, _], hl, _ => simp at hl; omega
        | _ :: _ :: _ :: _ :: _, hl, _ => simp at hl; omega
      · exact (hs0 c2).elim
    rename_i h1
    rw [if_neg h1] at ho ⊢
    split at hn
    · rename_i h2
      rw [if_pos h2] at ho
      exact (h0 ho).elim
    · simp [put] at hn
theorem dec_back (l : List Int) (h : ∀ x ∈ l, 0 ≤ x) (hn : bad ∉ dec l) : (dec l).flatMap enc = l := by
  rw [dec_decode] at hn ⊢
  unfold decode at hn ⊢
  split at hn
  · simp at hn
  · rename_i h0
    rw [if_neg h0]
    exact say_back _ l (Nat.le_refl _) h hn (show (say l).2 = 0 by omega)
end Go.Utf
