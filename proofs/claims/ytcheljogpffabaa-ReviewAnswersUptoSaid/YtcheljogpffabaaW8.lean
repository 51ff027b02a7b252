/- Law 20: what asks for words. -/
import Derived.Test.YtcheljogpffabaaSf
import Derived.Test.YtcheljogpffabaaW7
import Derived.Test.YtcheljogpffabaaSd
namespace Go.Proofs.Ytcheljogpffabaa
open Go.RowKit Go.Mem Go.Words
variable {W w : World} {H : List HProp}
theorem row41 : rowTy Try.prog 87 2 = true := by kernel_rfl
theorem slty37 : SlTy Try.prog 101 87 2 16 := ⟨Try.underlying101, by obtain ⟨i0, hi, hz0, hz1, hz2⟩ := info_parts (show (Try.prog.info? 87).map (fun i => (i.zero, i.size, i.bytes)) = some (some (.agg #[.int .i64 0, .int .i64 0]), 2, 16) by kernel_rfl); exact ⟨i0, _, hi, hz0, hz1, hz2, rfl⟩, by decide⟩
abbrev exC (p : Nat × Nat) : List Value := [.int .i64 (p.1 : Int), .int .i64 (p.2 : Int)]
def exs (l : List (Nat × Nat)) : List Value := (l.map exC).flatten
theorem exs_nil : exs [] = [] := rfl
theorem exs_snoc (l : List (Nat × Nat)) (x : Nat × Nat) : exs l ++ [.int .i64 (x.1 : Int), .int .i64 (x.2 : Int)] = exs (l ++ [x]) := by simp [exs]
attribute [local irreducible] World.setCell World.setCells World.alloc World.drew World.drewN Calls sat cel own blk old wpQuiet wpList tx
theorem all36 {q : Option Addr} (hs : sat W H w) : Calls Try.prog 68 #[.pointer q] w fun e w' => ∃ z, e = .returned (.func (.func 73) #[] #[.pointer (some ⟨z, 0, none⟩)]) ∧ sat W (cel z 100 [.pointer q] :: H) w' := by
  go_enter Try.func68, Try.ntmps68
  go_wp2_with (first | ((with_reducible refine isl ?_); first | ((with_reducible apply ldx); exact rfl; exact rfl; exact rfl; exact hs.b0; exact rfl; kernel_rfl) | ((with_reducible apply stx); exact rfl; exact rfl; exact rfl; exact hs.b0; exact rfl; exact rfl; exact rfl; kernel_rfl; exact rfl; clear hs; intro w hs) | ((with_reducible apply stcx); exact rfl; exact rfl; exact rfl; exact hs.b0; exact rfl; exact rfl; kernel_rfl; exact rfl; clear hs; intro w hs) | ((with_reducible refine wrap hs ?_); clear hs; (first | generalize w.heap.size = z1); intro w hs) | ((with_reducible refine wrap hs ?_); clear hs; intro w hs) | ((with_reducible refine wrapn hs ?_); clear hs; intro w hs) | ((with_reducible refine wrapd hs ?_); clear hs; intro w hs)))
  go_ret
  exact ⟨_, rfl, by first | exact hs | exact hs.made⟩
set_option maxHeartbeats 1000000 in
theorem append38 {lb : Array Value} {Hs : List HProp} {xs : List (Nat × Nat)} (hit : IterS Try.prog 73 lb (fun p : Nat × Nat => #[exV p]) Hs xs) (hlen : xs.length ≤ 1000) (hs : sat W (Hs ++ H) w) :
    Calls Try.prog 76 #[.slice none 0 0, .func (.func 73) #[] lb] w fun e w' => ∃ a c, e = .returned (.slice a xs.length c) ∧ sat W (own 87 2 (.slice a xs.length c) xs.length (exs xs) :: (Hs ++ H)) w' := by
  refine (callsIn_wide (n := 0)).1 (callsIn_of_wp_marks Try.func76 rfl trivial (wpIn_wide.2 ?_) rfl)
  simp only [Try.ntmps76, List.size_toArray, List.length_cons, List.length_nil, Nat.reduceAdd, Nat.reduceSub, Array.replicate_succ, Array.replicate_zero, List.push_toArray, List.append_toArray, List.nil_append, List.cons_append]
  go_wp2_with (first | ((with_reducible refine isl ?_); first | ((with_reducible apply ldx); exact rfl; exact rfl; exact rfl; exact hs.b0; exact rfl; kernel_rfl) | ((with_reducible apply stx); exact rfl; exact rfl; exact rfl; exact hs.b0; exact rfl; exact rfl; exact rfl; kernel_rfl; exact rfl; clear hs; intro w hs) | ((with_reducible apply stcx); exact rfl; exact rfl; exact rfl; exact hs.b0; exact rfl; exact rfl; kernel_rfl; exact rfl; clear hs; intro w hs) | ((with_reducible refine wrap hs ?_); clear hs; (first | generalize w.heap.size = z1); intro w hs) | ((with_reducible refine wrap hs ?_); clear hs; intro w hs) | ((with_reducible refine wrapn hs ?_); clear hs; intro w hs) | ((with_reducible refine wrapd hs ?_); clear hs; intro w hs)))
  have hs1 : sat W (cel w.heap.size 101 [.slice none 0 0] :: (Hs ++ H)) (w.alloc (.cells #[.slice none 0 0] 101)) := hs.made
  clear hs
  revert hs1
  generalize w.heap.size = z1
  generalize w.alloc _ = w2
  intro hs
  refine wp_range (W := W) (H := Hs ++ H) (encs := (fun p : Nat × Nat => #[exV p])) rfl (enters_of Try.func73 (by kernel_rfl) rfl) hit (fun _ => rfl)
    (fun pre (y : Option Addr × Nat) => [own 87 2 (.slice y.1 pre.length y.2) pre.length (exs pre), cel z1 101 [.slice y.1 pre.length y.2]])
    (fun _ _ => True) (fun _ _ (_ : Unit) => []) (fun _ _ _ => False)
    (fun _ x (d : Nat) => ⟨#[.slice none 0 0, .func (.func 73) #[] lb, .pointer (some ⟨z1, 0, none⟩), undef, .slice none 0 0, .pointer (some ⟨d, 0, none⟩), .func (.func 73) #[] lb, exV x, undef, undef, undef, undef, undef], []⟩)
    (fun _ x d => [cel d 87 (exC x)])
    (fun _ _ _ h => holds_append_left (holds_sublist (.cons _ (.cons _ (List.Sublist.refl _))) h)) (none, 0) trivial ?start ?assign ?body ?done ?stop
  case start =>
    have hs := hs.own_nil 87 2
    simp only [List.cons_append, List.nil_append]
    exact (by (refine sb_from ?_ hs; repeat constructor))
  case assign =>
    rintro l G pre x ⟨y1, y2⟩ w1 K _ hpx hs hK
    refine region_in (fun ⟨_, _, h⟩ => h) rfl ?_
    simp only [List.cons_append, List.nil_append] at hs
    go_wp2_with (first | ((with_reducible refine isl ?_); first | ((with_reducible refine wrap hs ?_); clear hs; generalize w1.heap.size = zd; intro w hs) | ((with_reducible apply stsw hs); exact rfl; exact rfl; exact rfl; exact rfl; exact row41; exact rfl; exact rfl; exact rfl; clear hs; intro w hs) | ((with_reducible refine wrap hs ?_); clear hs; intro w hs) | ((with_reducible refine wrapn hs ?_); clear hs; intro w hs) | ((with_reducible refine wrapd hs ?_); clear hs; intro w hs)))
    all_goals (first | exact hK zd w hs | exact hs)
  case body =>
    rintro l G pre x ⟨y1, y2⟩ d w2 _ hpx hs
    simp only [List.cons_append, List.nil_append] at hs
    have hlen2 : pre.length < 1000 := by
      have h2 := hpx.length_le
      simp at h2
      omega
    refine wpIn_block (region_in (fun ⟨_, _, h⟩ => h) rfl ?_)
    go_wp2_with (first | ((with_reducible refine isl ?_); first | ((with_reducible apply ldswx); exact rfl; exact rfl; exact rfl; (first | exact hs.b0 | exact hs.b1); exact row41) | ((with_reducible apply ldx); exact rfl; exact rfl; exact rfl; (first | exact hs.b0 | exact hs.b1 | exact hs.b2 | exact hs.b3); exact rfl; kernel_rfl) | ((with_reducible apply stx); exact rfl; exact rfl; exact rfl; (first | exact hs.b0 | exact hs.b1 | exact hs.b2 | exact hs.b3); exact rfl; exact rfl; exact rfl; kernel_rfl; exact rfl; clear hs; intro w hs) | ((with_reducible apply stcx); exact rfl; exact rfl; exact rfl; (first | exact hs.b0 | exact hs.b1 | exact hs.b2 | exact hs.b3); exact rfl; exact rfl; kernel_rfl; exact rfl; clear hs; intro w hs) | ((with_reducible apply app hs.b2); exact rfl; exact rfl; exact rfl; exact rfl; exact slty37; exact rfl; exact rfl; decide; omega; unfold maxLen; omega; clear hs; intro g5 c5 w hs) | ((with_reducible refine wrap hs ?_); clear hs; intro w hs) | ((with_reducible refine wrapn hs ?_); clear hs; intro w hs) | ((with_reducible refine wrapd hs ?_); clear hs; intro w hs)))
    refine ⟨(some ⟨g5, 0, none⟩, c5), trivial, ?_⟩
    rw [exs_snoc] at hs
    simp only [List.cons_append, List.nil_append, List.length_append, List.length_singleton]
    exact (by (refine sb_from ?_ hs; repeat constructor))
  case done =>
    rintro D ⟨y1, y2⟩ w' _ hs
    simp only [List.cons_append, List.nil_append] at hs
    go_wp2_with (first | ((with_reducible refine isl ?_); first | ((with_reducible apply ldx); exact rfl; exact rfl; exact rfl; (first | exact hs.b0 | exact hs.b1 | exact hs.b2); exact rfl; kernel_rfl) | ((with_reducible apply stx); exact rfl; exact rfl; exact rfl; (first | exact hs.b0 | exact hs.b1 | exact hs.b2); exact rfl; exact rfl; exact rfl; kernel_rfl; exact rfl; clear hs; intro w hs) | ((with_reducible apply stcx); exact rfl; exact rfl; exact rfl; (first | exact hs.b0 | exact hs.b1 | exact hs.b2); exact rfl; exact rfl; kernel_rfl; exact rfl; clear hs; intro w hs) | ((with_reducible refine wrap hs ?_); clear hs; intro w hs) | ((with_reducible refine wrapn hs ?_); clear hs; intro w hs) | ((with_reducible refine wrapd hs ?_); clear hs; intro w hs)))
    refine ⟨by simp, .inl ⟨_, _, rfl, run_takeDeferred (hs.b2.heap), ?_⟩⟩
    refine ⟨_, results_tmp rfl _ _ _, _, _, rfl, ?_⟩
    have hs := hs.b2.putObj (.deferred none)
    exact (by (refine sb_from ?_ hs; repeat constructor))
  case stop => exact fun _ _ _ _ _ _ h => h.elim
theorem collect35 {lb : Array Value} {Hs : List HProp} {xs : List (Nat × Nat)} (hit : IterS Try.prog 73 lb (fun p : Nat × Nat => #[exV p]) Hs xs) (hlen : xs.length ≤ 1000) (hs : sat W (Hs ++ H) w) :
    Calls Try.prog 70 #[.func (.func 73) #[] lb] w fun e w' => ∃ a c, e = .returned (.slice a xs.length c) ∧ sat W (own 87 2 (.slice a xs.length c) xs.length (exs xs) :: (Hs ++ H)) w' := by
  have HI := Lib.hid hit
  clear hit
  go_enter Try.func70, Try.ntmps70
  go_wp2_with (first | (go_at_call 76; refine (append38 HI.out hlen hs).mono ?_; clear hs; rintro e w ⟨a5, c5, rfl, hs⟩) | ((with_reducible refine isl ?_); first | ((with_reducible refine wrap hs ?_); clear hs; intro w hs) | ((with_reducible refine wrapn hs ?_); clear hs; intro w hs) | ((with_reducible refine wrapd hs ?_); clear hs; intro w hs)))
  go_ret
  exact ⟨_, _, rfl, hs⟩
section
variable {q : Option Addr} {Hc : List HProp} {ws : List (Nat × Nat)}
/-- p is a text (or none) whose words are ws, where Hc holds. -/
def Ws (q : Option Addr) (Hc : List HProp) (ws : List (Nat × Nat)) : Prop := ∀ z, IterS Try.prog 73 #[.pointer (some ⟨z, 0, none⟩)] (fun p : Nat × Nat => #[exV p]) (cel z 100 [.pointer q] :: Hc) ws
theorem words14 (hit : Ws q Hc ws) (hlen : ws.length ≤ 1000) (hs : sat W (Hc ++ H) w) :
    Calls Try.prog 58 #[.pointer q] w fun e w' => ∃ a c, e = .returned (.slice a ws.length c) ∧ sat W (own 87 2 (.slice a ws.length c) ws.length (exs ws) :: (Hc ++ H)) w' := by
  have HI := Lib.hid hit
  clear hit
  go_enter Try.func58, Try.ntmps58
  go_wp2_with (first | (go_at_call 68; refine (all36 hs).mono ?_; clear hs; rintro e w ⟨z, rfl, hs⟩) | (go_at_call 70; refine (collect35 (Hs := _ :: Hc) (HI.out z) hlen hs).mono ?_; clear hs; rintro e w ⟨a5, c5, rfl, hs⟩) | ((with_reducible refine isl ?_); first | ((with_reducible refine wrap hs ?_); clear hs; intro w hs) | ((with_reducible refine wrapn hs ?_); clear hs; intro w hs) | ((with_reducible refine wrapd hs ?_); clear hs; intro w hs)))
  go_ret
  exact ⟨_, _, rfl, by simp only [List.cons_append] at hs; (refine sb_from ?_ hs; repeat constructor)⟩
theorem find_at {P : Nat × Nat → Bool} : ∀ (pr : List (Nat × Nat)) (x : Nat × Nat) (r : List (Nat × Nat)), (∀ y ∈ pr, P y = false) → P x = true → (pr ++ x :: r).find? P = some x
  | [], x, r, _, h => by simp [h]
  | y :: pr, x, r, ha, h => by
    rw [List.cons_append, List.find?_cons_of_neg (by simp [ha y (by simp)])]
    exact find_at pr x r (fun z hz => ha z (by simp [hz])) h
theorem find_no {P : Nat × Nat → Bool} {pr : List (Nat × Nat)} (ha : ∀ y ∈ pr, P y = false) : pr.find? P = none := by
  rw [List.find?_eq_none]
  intro y hy
  simp [ha y hy]
/-- None of these holds. -/
def Non (P : Nat × Nat → Bool) (pr : List (Nat × Nat)) : Prop := ∀ y ∈ pr, P y = false
theorem non_nil (P : Nat × Nat → Bool) : Non P [] := by intro y hy; cases hy
theorem Non.snoc {P : Nat × Nat → Bool} {pr : List (Nat × Nat)} {x : Nat × Nat} (h : Non P pr) (hx : P x = false) : Non P (pr ++ [x]) := fun y hy => by
  rcases List.mem_append.1 hy with h1 | h1
  · exact h y h1
  · rw [List.mem_singleton.1 h1]; exact hx
def nP (col : Int) (y : Nat × Nat) : Bool := decide (col < (y.1 : Int))
theorem next_at {col : Int} {pr : List (Nat × Nat)} {x : Nat × Nat} {r : List (Nat × Nat)} (ha : Non (nP col) pr) (h : col < (x.1 : Int)) : nextW (pr ++ x :: r) col = x.1 := by
  unfold nextW; rw [find_at (P := fun x => decide (col < (x.1 : Int))) pr x r ha (by simpa using h)]
theorem next_no {col : Int} {pr : List (Nat × Nat)} (ha : Non (nP col) pr) : nextW pr col = -1 := by
  unfold nextW; rw [find_no (P := fun x => decide (col < (x.1 : Int))) ha]
set_option maxHeartbeats 1000000 in
theorem next15 (hit : Ws q Hc ws) (col : Int) (hs : sat W (Hc ++ H) w) :
    Calls Try.prog 56 #[.pointer q, .int .i64 col] w fun e w' => e = .returned (.int .i64 (nextW ws col)) ∧ sat W (Hc ++ H) w' := by
  have HI := Lib.hid hit
  clear hit
  refine (callsIn_wide (n := 0)).1 (callsIn_of_wp_marks Try.func56 rfl trivial (wpIn_wide.2 ?_) rfl)
  simp only [Try.ntmps56, List.size_toArray, List.length_cons, List.length_nil, Nat.reduceAdd, Nat.reduceSub, Array.replicate_succ, Array.replicate_zero, List.push_toArray, List.append_toArray, List.nil_append, List.cons_append]
  go_wp2_with (first | (go_at_call 68; refine (all36 hs).mono ?_; clear hs; rintro e w ⟨z, rfl, hs⟩) | ((with_reducible refine isl ?_); first | ((with_reducible apply ldx); exact rfl; exact rfl; exact rfl; (first | exact hs.b0 | exact hs.b1 | exact hs.b2); exact rfl; kernel_rfl) | ((with_reducible apply stx); exact rfl; exact rfl; exact rfl; (first | exact hs.b0 | exact hs.b1 | exact hs.b2); exact rfl; exact rfl; exact rfl; kernel_rfl; exact rfl; clear hs; intro w hs) | ((with_reducible apply stcx); exact rfl; exact rfl; exact rfl; (first | exact hs.b0 | exact hs.b1 | exact hs.b2); exact rfl; exact rfl; kernel_rfl; exact rfl; clear hs; intro w hs) | ((with_reducible refine wrap hs ?_); clear hs; (first | (have _t := z1; clear _t; generalize w.heap.size = z2) | generalize w.heap.size = z1); intro w hs) | ((with_reducible refine wrap hs ?_); clear hs; intro w hs) | ((with_reducible refine wrapn hs ?_); clear hs; intro w hs) | ((with_reducible refine wrapd hs ?_); clear hs; intro w hs)))
  refine wp_range (W := W) (H := Hc ++ H) (encs := (fun p : Nat × Nat => #[exV p])) rfl (enters_of Try.func73 (by kernel_rfl) rfl) (HI.out z) (fun _ => rfl)
    (fun _ (_ : Unit) => [cel z2 3 [.int .i64 0], cel z1 3 [.int .i64 col], cel z 100 [.pointer q]])
    (fun pre _ => Non (nP col) pre)
    (fun _ _ (x : Nat × Nat) => [cel z2 3 [.int .i64 (x.1 : Int)], cel z1 3 [.int .i64 col], cel z 100 [.pointer q]])
    (fun cd L x => cd = .ret ∧ ∃ p, L = p ++ [x] ∧ Non (nP col) p ∧ col < (x.1 : Int))
    (fun _ x (d : Nat) => ⟨#[.pointer q, .int .i64 col, undef, .pointer (some ⟨z1, 0, none⟩), .pointer (some ⟨z2, 0, none⟩), .pointer (some ⟨d, 0, none⟩), .pointer q, .func (.func 73) #[] #[.pointer (some ⟨z, 0, none⟩)], exV x, undef, undef, undef, undef, undef, undef], []⟩)
    (fun _ x d => [cel d 87 (exC x)])
    (fun _ _ _ h => holds_append_left (H := _ :: Hc) (G := H) (holds_sublist (.cons _ (.cons _ (.cons_cons _ (List.Sublist.refl _)))) h)) () (non_nil _) ?start ?assign ?body ?done ?stop
  case start =>
    simp only [List.cons_append, List.nil_append] at hs ⊢
    exact (by (refine sb_from ?_ hs; repeat constructor))
  case assign =>
    rintro l G pre x y w1 K _ hpx hs hK
    refine region_in (fun ⟨_, _, h⟩ => h) rfl ?_
    simp only [List.cons_append, List.nil_append] at hs
    go_wp2_with (first | ((with_reducible refine isl ?_); first | ((with_reducible refine wrap hs ?_); clear hs; generalize w1.heap.size = zd; intro w hs) | ((with_reducible apply stsw hs); exact rfl; exact rfl; exact rfl; exact rfl; exact row41; exact rfl; exact rfl; exact rfl; clear hs; intro w hs) | ((with_reducible refine wrap hs ?_); clear hs; intro w hs) | ((with_reducible refine wrapn hs ?_); clear hs; intro w hs) | ((with_reducible refine wrapd hs ?_); clear hs; intro w hs)))
    all_goals (first | exact hK zd w hs | exact hs)
  case body =>
    rintro l G pre x y d w2 hall hpx hs
    simp only [List.cons_append, List.nil_append] at hs
    refine wpIn_block (wpIn_seq (region_in (fun ⟨_, _, h⟩ => h) rfl ?_))
    by_cases hx : col < (x.1 : Int)
    · go_wp2_with (first | ((with_reducible refine isl ?_); first | ((with_reducible apply ldx); exact rfl; exact rfl; exact rfl; (first | exact hs.b0 | exact hs.b1 | exact hs.b2 | exact hs.b3 | exact hs.b4 | exact hs.b5); exact rfl; kernel_rfl) | ((with_reducible apply stx); exact rfl; exact rfl; exact rfl; (first | exact hs.b0 | exact hs.b1 | exact hs.b2 | exact hs.b3 | exact hs.b4 | exact hs.b5); exact rfl; exact rfl; exact rfl; kernel_rfl; exact rfl; clear hs; intro w hs) | ((with_reducible apply stcx); exact rfl; exact rfl; exact rfl; (first | exact hs.b0 | exact hs.b1 | exact hs.b2 | exact hs.b3 | exact hs.b4 | exact hs.b5); exact rfl; exact rfl; kernel_rfl; exact rfl; clear hs; intro w hs) | ((with_reducible refine wrap hs ?_); clear hs; intro w hs) | ((with_reducible refine wrapn hs ?_); clear hs; intro w hs) | ((with_reducible refine wrapd hs ?_); clear hs; intro w hs)))
      refine wpIn_cond_true rfl (wpIn_seq (region_in (fun ⟨_, _, h⟩ => h) rfl ?_))
      go_wp2_with (first | ((with_reducible refine isl ?_); first | ((with_reducible apply ldx); exact rfl; exact rfl; exact rfl; (first | exact hs.b0 | exact hs.b1 | exact hs.b2 | exact hs.b3 | exact hs.b4 | exact hs.b5); exact rfl; kernel_rfl) | ((with_reducible apply stx); exact rfl; exact rfl; exact rfl; (first | exact hs.b0 | exact hs.b1 | exact hs.b2 | exact hs.b3 | exact hs.b4 | exact hs.b5); exact rfl; exact rfl; exact rfl; kernel_rfl; exact rfl; clear hs; intro w hs) | ((with_reducible apply stcx); exact rfl; exact rfl; exact rfl; (first | exact hs.b0 | exact hs.b1 | exact hs.b2 | exact hs.b3 | exact hs.b4 | exact hs.b5); exact rfl; exact rfl; kernel_rfl; exact rfl; clear hs; intro w hs) | ((with_reducible refine wrap hs ?_); clear hs; intro w hs) | ((with_reducible refine wrapn hs ?_); clear hs; intro w hs) | ((with_reducible refine wrapd hs ?_); clear hs; intro w hs)))
      refine wpIn_ret ?_
      exact ⟨x, ⟨rfl, pre, rfl, hall, hx⟩, by
        simp only [List.cons_append, List.nil_append]
        exact (by (refine sb_from ?_ hs; repeat constructor))⟩
    · go_wp2_with (first | ((with_reducible refine isl ?_); first | ((with_reducible apply ldx); exact rfl; exact rfl; exact rfl; (first | exact hs.b0 | exact hs.b1 | exact hs.b2 | exact hs.b3 | exact hs.b4 | exact hs.b5); exact rfl; kernel_rfl) | ((with_reducible apply stx); exact rfl; exact rfl; exact rfl; (first | exact hs.b0 | exact hs.b1 | exact hs.b2 | exact hs.b3 | exact hs.b4 | exact hs.b5); exact rfl; exact rfl; exact rfl; kernel_rfl; exact rfl; clear hs; intro w hs) | ((with_reducible apply stcx); exact rfl; exact rfl; exact rfl; (first | exact hs.b0 | exact hs.b1 | exact hs.b2 | exact hs.b3 | exact hs.b4 | exact hs.b5); exact rfl; exact rfl; kernel_rfl; exact rfl; clear hs; intro w hs) | ((with_reducible refine wrap hs ?_); clear hs; intro w hs) | ((with_reducible refine wrapn hs ?_); clear hs; intro w hs) | ((with_reducible refine wrapd hs ?_); clear hs; intro w hs)))
      refine wpIn_cond_false rfl (wpIn_skip ?_)
      refine ⟨(), hall.snoc (by simpa [nP] using hx), ?_⟩
      · simp only [List.cons_append, List.nil_append]
        exact (by (refine sb_from ?_ hs; repeat constructor))
  case done =>
    rintro D y w' hall hs
    simp only [List.cons_append, List.nil_append] at hs
    have HL := Lib.hid (next_no hall)
    clear hall
    go_wp2_with (first | ((with_reducible refine isl ?_); first | ((with_reducible apply ldx); exact rfl; exact rfl; exact rfl; (first | exact hs.b0 | exact hs.b1 | exact hs.b2 | exact hs.b3); exact rfl; kernel_rfl) | ((with_reducible apply stx); exact rfl; exact rfl; exact rfl; (first | exact hs.b0 | exact hs.b1 | exact hs.b2 | exact hs.b3); exact rfl; exact rfl; exact rfl; kernel_rfl; exact rfl; clear hs; intro w hs) | ((with_reducible apply stcx); exact rfl; exact rfl; exact rfl; (first | exact hs.b0 | exact hs.b1 | exact hs.b2 | exact hs.b3); exact rfl; exact rfl; kernel_rfl; exact rfl; clear hs; intro w hs) | ((with_reducible refine wrap hs ?_); clear hs; intro w hs) | ((with_reducible refine wrapn hs ?_); clear hs; intro w hs) | ((with_reducible refine wrapd hs ?_); clear hs; intro w hs)))
    have hD := hs.b3.heap
    have hs := (hs.b3.putObj (.deferred none)).drop
    refine ⟨by simp, .inl ⟨_, _, rfl, run_takeDeferred hD, ?_⟩⟩
    exact ⟨_, results_cell1 hs rfl rfl (by kernel_rfl), by rw [HL.out], by (refine sb_from ?_ hs; repeat constructor)⟩
  case stop =>
    rintro D cd L x w' ⟨rest, hrest⟩ ⟨rfl, p, rfl, hall, hx⟩ hs
    simp only [List.cons_append, List.nil_append] at hs
    have HL := Lib.hid (show nextW ws col = x.1 by rw [← hrest, List.append_assoc]; exact next_at hall hx)
    clear hall hrest hx
    go_wp2_with (first | ((with_reducible refine isl ?_); first | ((with_reducible apply ldx); exact rfl; exact rfl; exact rfl; (first | exact hs.b0 | exact hs.b1 | exact hs.b2 | exact hs.b3); exact rfl; kernel_rfl) | ((with_reducible apply stx); exact rfl; exact rfl; exact rfl; (first | exact hs.b0 | exact hs.b1 | exact hs.b2 | exact hs.b3); exact rfl; exact rfl; exact rfl; kernel_rfl; exact rfl; clear hs; intro w hs) | ((with_reducible apply stcx); exact rfl; exact rfl; exact rfl; (first | exact hs.b0 | exact hs.b1 | exact hs.b2 | exact hs.b3); exact rfl; exact rfl; kernel_rfl; exact rfl; clear hs; intro w hs) | ((with_reducible refine wrap hs ?_); clear hs; intro w hs) | ((with_reducible refine wrapn hs ?_); clear hs; intro w hs) | ((with_reducible refine wrapd hs ?_); clear hs; intro w hs)))
    have hD := hs.b3.heap
    have hs := (hs.b3.putObj (.deferred none)).drop
    refine ⟨by simp, .inl ⟨_, _, rfl, run_takeDeferred hD, ?_⟩⟩
    exact ⟨_, results_cell1 hs rfl rfl (by kernel_rfl), by rw [HL.out], by (refine sb_from ?_ hs; repeat constructor)⟩
end
end Go.Proofs.Ytcheljogpffabaa
