import Derived.Test.YtappjlebkjmooaaP2
namespace Go.Proofs.Ytappjlebkjmooaa
open Go.RowKit Go.Mem
variable {W w : World} {H : List HProp}
attribute [local irreducible] World.setCell World.alloc World.drew World.drewN Calls sat cel own blk old

/-! ## The document's list -/
def rl (b : Nat) (xs : List Int) (over : Bool) : HProp := fun h => ∃ v, star (cel b 38 [v, .bool over]) (own 3 1 v xs.length (xs.map (Value.int .i64))) h
theorem rl_open {b : Nat} {xs : List Int} {over : Bool} (hs : sat W (rl b xs over :: H) w) : ∃ v, sat W (cel b 38 [v, .bool over] :: own 3 1 v xs.length (xs.map (Value.int .i64)) :: H) w :=
  let ⟨v, h⟩ := hs.ex; ⟨v, h.unstar⟩
theorem rl_close {b : Nat} {xs : List Int} {over : Bool} {v : Value} (hs : sat W (cel b 38 [v, .bool over] :: own 3 1 v xs.length (xs.map (Value.int .i64)) :: H) w) : sat W (rl b xs over :: H) w :=
  hs.star.imp fun _ h => ⟨v, h⟩

def rnext (xs : List Int) (over : Bool) : List Int × Bool :=
  let ys := if xs = [] then [0] else xs
  if 32 ≤ ys.length then (ys, true) else (ys ++ [0], over)
def rdigit (xs : List Int) (over : Bool) (d : Int) : List Int :=
  if d < 0 ∨ 9 < d ∨ over = true then xs else
  let ys := if xs = [] then [0] else xs
  ys.set (ys.length - 1) (min (ys.getD (ys.length - 1) 0 * 10 + d) 65535)
def rat (xs : List Int) (i d : Int) : Int := if i < 0 ∨ (xs.length : Int) ≤ i ∨ xs.getD i.toNat 0 = 0 then d else xs.getD i.toNat 0


theorem rl_done {b : Nat} {ys : List Int} {over : Bool} {v : Value} {n : Nat} (hs : sat W (cel b 38 [v, .bool over] :: own 3 1 v n (ys.map (Value.int .i64)) :: H) w) (hn : n = ys.length) : sat W (rl b ys over :: H) w := by
  subst hn; exact rl_close hs

set_option maxHeartbeats 400000 in
theorem rnext_none (b : Nat) (over : Bool) (hs : sat W (rl b [] over :: H) w) :
    Calls Try.prog 15 #[.pointer (some ⟨b, 0, none⟩)] w fun e w' => e = .returned (.tuple #[]) ∧ sat W (rl b [0, 0] over :: H) w' := by
  obtain ⟨v, hs⟩ := rl_open hs
  obtain ⟨a, c, rfl⟩ := hs.swap.own_slice
  go_enter Try.func15, Try.ntmps15
  go_wp2_with (first
    | (apply ld hs.b0; exact rfl; exact rfl; exact rfl; exact rfl; kernel_rfl)
    | (apply ld hs.b1; exact rfl; exact rfl; exact rfl; exact rfl; kernel_rfl)
    | (apply ld hs.b2; exact rfl; exact rfl; exact rfl; exact rfl; kernel_rfl)
    | (apply ld hs.b3; exact rfl; exact rfl; exact rfl; exact rfl; kernel_rfl)
    | (apply ld hs.b4; exact rfl; exact rfl; exact rfl; exact rfl; kernel_rfl)
    | (apply st hs.b0; exact rfl; exact rfl; exact rfl; exact rfl; exact rfl; exact rfl; kernel_rfl; exact rfl; clear hs; intro w hs)
    | (apply st hs.b1; exact rfl; exact rfl; exact rfl; exact rfl; exact rfl; exact rfl; kernel_rfl; exact rfl; clear hs; intro w hs)
    | (apply st hs.b2; exact rfl; exact rfl; exact rfl; exact rfl; exact rfl; exact rfl; kernel_rfl; exact rfl; clear hs; intro w hs)
    | (apply st hs.b3; exact rfl; exact rfl; exact rfl; exact rfl; exact rfl; exact rfl; kernel_rfl; exact rfl; clear hs; intro w hs)
    | (apply st hs.b4; exact rfl; exact rfl; exact rfl; exact rfl; exact rfl; exact rfl; kernel_rfl; exact rfl; clear hs; intro w hs)
    | (apply stc hs.b0; exact rfl; exact rfl; exact rfl; exact rfl; exact rfl; kernel_rfl; exact rfl; clear hs; intro w hs)
    | (apply stc hs.b1; exact rfl; exact rfl; exact rfl; exact rfl; exact rfl; kernel_rfl; exact rfl; clear hs; intro w hs)
    | (apply stc hs.b2; exact rfl; exact rfl; exact rfl; exact rfl; exact rfl; kernel_rfl; exact rfl; clear hs; intro w hs)
    | (apply stc hs.b3; exact rfl; exact rfl; exact rfl; exact rfl; exact rfl; kernel_rfl; exact rfl; clear hs; intro w hs)
    | (apply stc hs.b4; exact rfl; exact rfl; exact rfl; exact rfl; exact rfl; kernel_rfl; exact rfl; clear hs; intro w hs)
    | (apply app hs.b2; exact rfl; exact rfl; exact rfl; exact rfl; exact slty28; exact rfl; exact rfl; decide; decide; decide; clear hs; intro g' c' w hs)
    | (refine wrap hs ?_; clear hs; intro w hs)
    | (refine wrapn hs ?_; clear hs; intro w hs)
    | (refine wrapd hs ?_; clear hs; intro w hs))
  refine end_end0 rfl rfl ?_
  exact ⟨rfl, rl_done (ys := [0, 0]) (v := .slice (some ⟨g', 0, none⟩) _ c') hs rfl⟩

set_option maxHeartbeats 400000 in
theorem rnext_full (b : Nat) (xs : List Int) (over : Bool) (hlen : 32 ≤ xs.length) (hm : xs.length ≤ 1000) (hs : sat W (rl b xs over :: H) w) :
    Calls Try.prog 15 #[.pointer (some ⟨b, 0, none⟩)] w fun e w' => e = .returned (.tuple #[]) ∧ sat W (rl b xs true :: H) w' := by
  obtain ⟨v, hs⟩ := rl_open hs
  obtain ⟨a, c, rfl⟩ := hs.swap.own_slice
  go_enter Try.func15, Try.ntmps15
  go_wp2_with (first
    | (apply ld hs.b0; exact rfl; exact rfl; exact rfl; exact rfl; kernel_rfl)
    | (apply ld hs.b1; exact rfl; exact rfl; exact rfl; exact rfl; kernel_rfl)
    | (apply st hs.b0; exact rfl; exact rfl; exact rfl; exact rfl; exact rfl; exact rfl; kernel_rfl; exact rfl; clear hs; intro w hs)
    | (apply st hs.b1; exact rfl; exact rfl; exact rfl; exact rfl; exact rfl; exact rfl; kernel_rfl; exact rfl; clear hs; intro w hs)
    | (apply stc hs.b0; exact rfl; exact rfl; exact rfl; exact rfl; exact rfl; kernel_rfl; exact rfl; clear hs; intro w hs)
    | (apply stc hs.b1; exact rfl; exact rfl; exact rfl; exact rfl; exact rfl; kernel_rfl; exact rfl; clear hs; intro w hs)
    | (refine wrap hs ?_; clear hs; intro w hs)
    | (refine wrapn hs ?_; clear hs; intro w hs)
    | (refine wrapd hs ?_; clear hs; intro w hs))
  refine end_ret0 rfl rfl ?_
  exact ⟨rfl, rl_done (ys := xs) hs rfl⟩

set_option maxHeartbeats 400000 in
theorem rnext_some (b : Nat) (xs : List Int) (over : Bool) (h1 : 1 ≤ xs.length) (hlen : xs.length < 32) (hs : sat W (rl b xs over :: H) w) :
    Calls Try.prog 15 #[.pointer (some ⟨b, 0, none⟩)] w fun e w' => e = .returned (.tuple #[]) ∧ sat W (rl b (xs ++ [0]) over :: H) w' := by
  obtain ⟨v, hs⟩ := rl_open hs
  obtain ⟨a, c, rfl⟩ := hs.swap.own_slice
  go_enter Try.func15, Try.ntmps15
  go_wp2_with (first
    | (apply ld hs.b0; exact rfl; exact rfl; exact rfl; exact rfl; kernel_rfl)
    | (apply ld hs.b1; exact rfl; exact rfl; exact rfl; exact rfl; kernel_rfl)
    | (apply ld hs.b2; exact rfl; exact rfl; exact rfl; exact rfl; kernel_rfl)
    | (apply ld hs.b3; exact rfl; exact rfl; exact rfl; exact rfl; kernel_rfl)
    | (apply st hs.b0; exact rfl; exact rfl; exact rfl; exact rfl; exact rfl; exact rfl; kernel_rfl; exact rfl; clear hs; intro w hs)
    | (apply st hs.b1; exact rfl; exact rfl; exact rfl; exact rfl; exact rfl; exact rfl; kernel_rfl; exact rfl; clear hs; intro w hs)
    | (apply st hs.b2; exact rfl; exact rfl; exact rfl; exact rfl; exact rfl; exact rfl; kernel_rfl; exact rfl; clear hs; intro w hs)
    | (apply st hs.b3; exact rfl; exact rfl; exact rfl; exact rfl; exact rfl; exact rfl; kernel_rfl; exact rfl; clear hs; intro w hs)
    | (apply stc hs.b0; exact rfl; exact rfl; exact rfl; exact rfl; exact rfl; kernel_rfl; exact rfl; clear hs; intro w hs)
    | (apply stc hs.b1; exact rfl; exact rfl; exact rfl; exact rfl; exact rfl; kernel_rfl; exact rfl; clear hs; intro w hs)
    | (apply stc hs.b2; exact rfl; exact rfl; exact rfl; exact rfl; exact rfl; kernel_rfl; exact rfl; clear hs; intro w hs)
    | (apply stc hs.b3; exact rfl; exact rfl; exact rfl; exact rfl; exact rfl; kernel_rfl; exact rfl; clear hs; intro w hs)
    | (apply app hs.b2; exact rfl; exact rfl; exact rfl; exact rfl; exact slty28; exact rfl; exact rfl; decide; omega; unfold maxLen; omega; clear hs; intro g' c' w hs)
    | (refine wrap hs ?_; clear hs; intro w hs)
    | (refine wrapn hs ?_; clear hs; intro w hs)
    | (refine wrapd hs ?_; clear hs; intro w hs))
  refine end_end0 rfl rfl ?_
  exact ⟨rfl, rl_done (ys := xs ++ [0]) (v := .slice (some ⟨g', 0, none⟩) _ c') (by simpa using hs) (by simp)⟩

theorem rnext_any (b : Nat) (xs : List Int) (over : Bool) (hlen : xs.length ≤ 32) (hs : sat W (rl b xs over :: H) w) :
    Calls Try.prog 15 #[.pointer (some ⟨b, 0, none⟩)] w fun e w' => e = .returned (.tuple #[]) ∧ sat W (rl b (rnext xs over).1 (rnext xs over).2 :: H) w' := by
  cases xs with
  | nil => exact rnext_none b over hs
  | cons x xs =>
    by_cases hf : 32 ≤ (x :: xs).length
    · have e : rnext (x :: xs) over = (x :: xs, true) := by unfold rnext; simp only [reduceCtorEq, if_false]; rw [if_pos hf]
      rw [e]; exact rnext_full b _ over hf (by simp at hlen ⊢; omega) hs
    · have e : rnext (x :: xs) over = ((x :: xs) ++ [0], over) := by unfold rnext; simp only [reduceCtorEq, if_false]; rw [if_neg hf]
      rw [e]; exact rnext_some b _ over (by simp) (by omega) hs

set_option maxHeartbeats 400000 in
theorem rdigit_no (b : Nat) (xs : List Int) (over : Bool) (d : Int) (hd : d < 0 ∨ 9 < d ∨ over = true) (hs : sat W (rl b xs over :: H) w) :
    Calls Try.prog 18 #[.pointer (some ⟨b, 0, none⟩), .int .i64 d] w fun e w' => e = .returned (.tuple #[]) ∧ sat W (rl b xs over :: H) w' := by
  obtain ⟨v, hs⟩ := rl_open hs
  obtain ⟨a, c, rfl⟩ := hs.swap.own_slice
  by_cases h1 : d < 0
  · clear hd
    go_enter Try.func18, Try.ntmps18
    go_wp2_with (first
    | (apply ld hs.b0; exact rfl; exact rfl; exact rfl; exact rfl; kernel_rfl)
    | (apply ld hs.b1; exact rfl; exact rfl; exact rfl; exact rfl; kernel_rfl)
    | (apply st hs.b0; exact rfl; exact rfl; exact rfl; exact rfl; exact rfl; exact rfl; kernel_rfl; exact rfl; clear hs; intro w hs)
    | (apply st hs.b1; exact rfl; exact rfl; exact rfl; exact rfl; exact rfl; exact rfl; kernel_rfl; exact rfl; clear hs; intro w hs)
    | (apply stc hs.b0; exact rfl; exact rfl; exact rfl; exact rfl; exact rfl; kernel_rfl; exact rfl; clear hs; intro w hs)
    | (apply stc hs.b1; exact rfl; exact rfl; exact rfl; exact rfl; exact rfl; kernel_rfl; exact rfl; clear hs; intro w hs)
    | (refine wrap hs ?_; clear hs; intro w hs)
    | (refine wrapn hs ?_; clear hs; intro w hs)
    | (refine wrapd hs ?_; clear hs; intro w hs))
    refine end_ret0 rfl rfl ?_
    exact ⟨rfl, rl_done (ys := xs) hs rfl⟩
  · by_cases h2 : 9 < d
    · clear hd
      go_enter Try.func18, Try.ntmps18
      go_wp2_with (first
    | (apply ld hs.b0; exact rfl; exact rfl; exact rfl; exact rfl; kernel_rfl)
    | (apply ld hs.b1; exact rfl; exact rfl; exact rfl; exact rfl; kernel_rfl)
    | (apply st hs.b0; exact rfl; exact rfl; exact rfl; exact rfl; exact rfl; exact rfl; kernel_rfl; exact rfl; clear hs; intro w hs)
    | (apply st hs.b1; exact rfl; exact rfl; exact rfl; exact rfl; exact rfl; exact rfl; kernel_rfl; exact rfl; clear hs; intro w hs)
    | (apply stc hs.b0; exact rfl; exact rfl; exact rfl; exact rfl; exact rfl; kernel_rfl; exact rfl; clear hs; intro w hs)
    | (apply stc hs.b1; exact rfl; exact rfl; exact rfl; exact rfl; exact rfl; kernel_rfl; exact rfl; clear hs; intro w hs)
    | (refine wrap hs ?_; clear hs; intro w hs)
    | (refine wrapn hs ?_; clear hs; intro w hs)
    | (refine wrapd hs ?_; clear hs; intro w hs))
      refine end_ret0 rfl rfl ?_
      exact ⟨rfl, rl_done (ys := xs) hs rfl⟩
    · obtain rfl : over = true := by simpa [h1, h2] using hd
      clear hd
      go_enter Try.func18, Try.ntmps18
      go_wp2_with (first
    | (apply ld hs.b0; exact rfl; exact rfl; exact rfl; exact rfl; kernel_rfl)
    | (apply ld hs.b1; exact rfl; exact rfl; exact rfl; exact rfl; kernel_rfl)
    | (apply st hs.b0; exact rfl; exact rfl; exact rfl; exact rfl; exact rfl; exact rfl; kernel_rfl; exact rfl; clear hs; intro w hs)
    | (apply st hs.b1; exact rfl; exact rfl; exact rfl; exact rfl; exact rfl; exact rfl; kernel_rfl; exact rfl; clear hs; intro w hs)
    | (apply stc hs.b0; exact rfl; exact rfl; exact rfl; exact rfl; exact rfl; kernel_rfl; exact rfl; clear hs; intro w hs)
    | (apply stc hs.b1; exact rfl; exact rfl; exact rfl; exact rfl; exact rfl; kernel_rfl; exact rfl; clear hs; intro w hs)
    | (refine wrap hs ?_; clear hs; intro w hs)
    | (refine wrapn hs ?_; clear hs; intro w hs)
    | (refine wrapd hs ?_; clear hs; intro w hs))
      refine end_ret0 rfl rfl ?_
      exact ⟨rfl, rl_done (ys := xs) hs rfl⟩


set_option maxHeartbeats 400000 in
theorem rdigit_none (b : Nat) (d : Int) (h1 : 0 ≤ d) (h2 : d ≤ 9) (hs : sat W (rl b [] false :: H) w) :
    Calls Try.prog 18 #[.pointer (some ⟨b, 0, none⟩), .int .i64 d] w fun e w' => e = .returned (.tuple #[]) ∧ sat W (rl b [d] false :: H) w' := by
  obtain ⟨v, hs⟩ := rl_open hs
  obtain ⟨a, c, rfl⟩ := hs.swap.own_slice
  have e1 : decide (d < 0) = false := by simp; omega
  have e2 : decide (9 < d) = false := by simp; omega
  go_enter Try.func18, Try.ntmps18
  go_wp2_with (first
    | ((try simp only [Act.put, List.setIfInBounds_toArray, List.set_cons_succ, List.set_cons_zero]); refine region_sat hs (by kernel_rfl) (by kernel_rfl) ?_; intro X f hne hf hcl; (repeat (first | (apply ldq (fun x => (hf x).b0); exact rfl; exact rfl; exact rfl; exact rfl; kernel_rfl; (try simp only [Act.put, List.setIfInBounds_toArray, List.set_cons_succ, List.set_cons_zero])) | (apply ldq (fun x => (hf x).b1); exact rfl; exact rfl; exact rfl; exact rfl; kernel_rfl; (try simp only [Act.put, List.setIfInBounds_toArray, List.set_cons_succ, List.set_cons_zero])) | (apply ldq (fun x => (hf x).b2); exact rfl; exact rfl; exact rfl; exact rfl; kernel_rfl; (try simp only [Act.put, List.setIfInBounds_toArray, List.set_cons_succ, List.set_cons_zero])) | (apply ldoq (fun x => (hf x).b0); exact rfl; exact rfl; exact rfl; (first | exact rfl | exact ints_get (by omega)); kernel_rfl; (try simp only [Act.put, List.setIfInBounds_toArray, List.set_cons_succ, List.set_cons_zero])) | (apply ldoq (fun x => (hf x).b1); exact rfl; exact rfl; exact rfl; (first | exact rfl | exact ints_get (by omega)); kernel_rfl; (try simp only [Act.put, List.setIfInBounds_toArray, List.set_cons_succ, List.set_cons_zero])) | (apply ldoq (fun x => (hf x).b2); exact rfl; exact rfl; exact rfl; (first | exact rfl | exact ints_get (by omega)); kernel_rfl; (try simp only [Act.put, List.setIfInBounds_toArray, List.set_cons_succ, List.set_cons_zero])) | go_big_quiet_step (fail))); refine wpQuiet_nil ?_; clear hcl hf hne hs f X; intro w hs)
    | ((try simp only [Act.put, List.setIfInBounds_toArray, List.set_cons_succ, List.set_cons_zero]); refine region_tail 12 hs (by kernel_rfl) (by kernel_rfl) ?_; simp only [List.take_succ_cons, List.take_zero, List.drop_succ_cons, List.drop_zero]; clear hs; intro w hs; (repeat (first | (apply ldt hs.b0; exact rfl; exact rfl; exact rfl; exact rfl; kernel_rfl; (try simp only [Act.put, List.setIfInBounds_toArray, List.set_cons_succ, List.set_cons_zero])) | (apply ldt hs.b1; exact rfl; exact rfl; exact rfl; exact rfl; kernel_rfl; (try simp only [Act.put, List.setIfInBounds_toArray, List.set_cons_succ, List.set_cons_zero])) | (apply ldt hs.b2; exact rfl; exact rfl; exact rfl; exact rfl; kernel_rfl; (try simp only [Act.put, List.setIfInBounds_toArray, List.set_cons_succ, List.set_cons_zero])) | (apply ldot hs.b0; exact rfl; exact rfl; exact rfl; (first | exact rfl | exact ints_get (by omega)); kernel_rfl; (try simp only [Act.put, List.setIfInBounds_toArray, List.set_cons_succ, List.set_cons_zero])) | (apply ldot hs.b1; exact rfl; exact rfl; exact rfl; (first | exact rfl | exact ints_get (by omega)); kernel_rfl; (try simp only [Act.put, List.setIfInBounds_toArray, List.set_cons_succ, List.set_cons_zero])) | (apply ldot hs.b2; exact rfl; exact rfl; exact rfl; (first | exact rfl | exact ints_get (by omega)); kernel_rfl; (try simp only [Act.put, List.setIfInBounds_toArray, List.set_cons_succ, List.set_cons_zero])) | go_big_quiet_step (fail))); refine wpQuiet_nil ?_)
    | (apply ld hs.b0; exact rfl; exact rfl; exact rfl; exact rfl; kernel_rfl)
    | (apply ld hs.b1; exact rfl; exact rfl; exact rfl; exact rfl; kernel_rfl)
    | (apply ld hs.b2; exact rfl; exact rfl; exact rfl; exact rfl; kernel_rfl)
    | (apply ld hs.b3; exact rfl; exact rfl; exact rfl; exact rfl; kernel_rfl)
    | (apply ldo hs.b0; exact rfl; exact rfl; exact rfl; (first | exact rfl | exact ints_get (by omega)); kernel_rfl)
    | (apply ldo hs.b1; exact rfl; exact rfl; exact rfl; (first | exact rfl | exact ints_get (by omega)); kernel_rfl)
    | (apply ldo hs.b2; exact rfl; exact rfl; exact rfl; (first | exact rfl | exact ints_get (by omega)); kernel_rfl)
    | (apply st hs.b0; exact rfl; exact rfl; exact rfl; exact rfl; exact rfl; exact rfl; kernel_rfl; exact rfl; clear hs; intro w hs)
    | (apply st hs.b1; exact rfl; exact rfl; exact rfl; exact rfl; exact rfl; exact rfl; kernel_rfl; exact rfl; clear hs; intro w hs)
    | (apply st hs.b2; exact rfl; exact rfl; exact rfl; exact rfl; exact rfl; exact rfl; kernel_rfl; exact rfl; clear hs; intro w hs)
    | (apply st hs.b3; exact rfl; exact rfl; exact rfl; exact rfl; exact rfl; exact rfl; kernel_rfl; exact rfl; clear hs; intro w hs)
    | (apply stc hs.b0; exact rfl; exact rfl; exact rfl; exact rfl; exact rfl; kernel_rfl; exact rfl; clear hs; intro w hs)
    | (apply stc hs.b1; exact rfl; exact rfl; exact rfl; exact rfl; exact rfl; kernel_rfl; exact rfl; clear hs; intro w hs)
    | (apply stc hs.b2; exact rfl; exact rfl; exact rfl; exact rfl; exact rfl; kernel_rfl; exact rfl; clear hs; intro w hs)
    | (apply stc hs.b3; exact rfl; exact rfl; exact rfl; exact rfl; exact rfl; kernel_rfl; exact rfl; clear hs; intro w hs)
    | (apply sto hs.b0; exact rfl; exact rfl; exact rfl; exact rfl; exact rfl; (first | exact rfl | exact ints_some (by omega)); kernel_rfl; exact rfl; clear hs; intro w hs)
    | (apply sto hs.b1; exact rfl; exact rfl; exact rfl; exact rfl; exact rfl; (first | exact rfl | exact ints_some (by omega)); kernel_rfl; exact rfl; clear hs; intro w hs)
    | (apply sto hs.b2; exact rfl; exact rfl; exact rfl; exact rfl; exact rfl; (first | exact rfl | exact ints_some (by omega)); kernel_rfl; exact rfl; clear hs; intro w hs)
    | (apply app hs.b2; exact rfl; exact rfl; exact rfl; exact rfl; exact slty28; exact rfl; exact rfl; decide; decide; decide; clear hs; intro g' c' w hs)
    | (refine wrap hs ?_; clear hs; intro w hs)
    | (refine wrapn hs ?_; clear hs; intro w hs)
    | (refine wrapd hs ?_; clear hs; intro w hs))
  refine end_end0 rfl rfl ?_
  exact ⟨rfl, rl_done (ys := [d]) (v := .slice (some ⟨g', 0, none⟩) _ c') hs.swap rfl⟩

set_option maxHeartbeats 400000 in
theorem rdigit_some (b : Nat) (xs : List Int) (d : Int) (h1 : 0 ≤ d) (h2 : d ≤ 9) (hne : 1 ≤ xs.length) (hl : xs.length ≤ 1000) (hx : ∀ x ∈ xs, 0 ≤ x ∧ x ≤ 65535) (hs : sat W (rl b xs false :: H) w) :
    Calls Try.prog 18 #[.pointer (some ⟨b, 0, none⟩), .int .i64 d] w fun e w' => e = .returned (.tuple #[]) ∧ sat W (rl b (xs.set (xs.length - 1) (min (xs.getD (xs.length - 1) 0 * 10 + d) 65535)) false :: H) w' := by
  obtain ⟨v, hs⟩ := rl_open hs
  obtain ⟨a, c, rfl⟩ := hs.swap.own_some (by omega)
  have e1 : decide (d < 0) = false := by simp; omega
  have e2 : decide (9 < d) = false := by simp; omega
  have hy : 0 ≤ xs[xs.length - 1]?.getD 0 ∧ xs[xs.length - 1]?.getD 0 ≤ 65535 := by
    rw [List.getElem?_eq_getElem (by omega)]; exact hx _ (List.getElem_mem _)
  have HF := Lib.hid (show ∀ z w', z = min (xs.getD (xs.length - 1) 0 * 10 + d) 65535 → sat W (own 3 1 (.slice (some ⟨a, 0, none⟩) xs.length c) xs.length ((xs.map (Value.int .i64)).set (xs.length - 1) (.int .i64 z)) :: cel b 38 [.slice (some ⟨a, 0, none⟩) xs.length c, .bool false] :: H) w' →
      sat W (rl b (xs.set (xs.length - 1) (min (xs.getD (xs.length - 1) 0 * 10 + d) 65535)) false :: H) w' from fun z w' hz hs' => by
    rw [← List.map_set] at hs'
    rw [← hz]
    exact rl_done hs'.swap (by simp))
  clear hx
  go_enter Try.func18, Try.ntmps18
  go_wp2_with (first
    | ((try simp only [Act.put, List.setIfInBounds_toArray, List.set_cons_succ, List.set_cons_zero]); refine region_sat hs (by kernel_rfl) (by kernel_rfl) ?_; intro X f hne hf hcl; (repeat (first | (apply ldq (fun x => (hf x).b0); exact rfl; exact rfl; exact rfl; exact rfl; kernel_rfl; (try simp only [Act.put, List.setIfInBounds_toArray, List.set_cons_succ, List.set_cons_zero])) | (apply ldq (fun x => (hf x).b1); exact rfl; exact rfl; exact rfl; exact rfl; kernel_rfl; (try simp only [Act.put, List.setIfInBounds_toArray, List.set_cons_succ, List.set_cons_zero])) | (apply ldq (fun x => (hf x).b2); exact rfl; exact rfl; exact rfl; exact rfl; kernel_rfl; (try simp only [Act.put, List.setIfInBounds_toArray, List.set_cons_succ, List.set_cons_zero])) | (apply ldoq (fun x => (hf x).b0); exact rfl; exact rfl; exact rfl; (first | exact rfl | exact ints_get (by omega)); kernel_rfl; (try simp only [Act.put, List.setIfInBounds_toArray, List.set_cons_succ, List.set_cons_zero])) | (apply ldoq (fun x => (hf x).b1); exact rfl; exact rfl; exact rfl; (first | exact rfl | exact ints_get (by omega)); kernel_rfl; (try simp only [Act.put, List.setIfInBounds_toArray, List.set_cons_succ, List.set_cons_zero])) | (apply ldoq (fun x => (hf x).b2); exact rfl; exact rfl; exact rfl; (first | exact rfl | exact ints_get (by omega)); kernel_rfl; (try simp only [Act.put, List.setIfInBounds_toArray, List.set_cons_succ, List.set_cons_zero])) | go_big_quiet_step (fail))); refine wpQuiet_nil ?_; clear hcl hf hne hs f X; intro w hs)
    | ((try simp only [Act.put, List.setIfInBounds_toArray, List.set_cons_succ, List.set_cons_zero]); refine region_tail 12 hs (by kernel_rfl) (by kernel_rfl) ?_; simp only [List.take_succ_cons, List.take_zero, List.drop_succ_cons, List.drop_zero]; clear hs; intro w hs; (repeat (first | (apply ldt hs.b0; exact rfl; exact rfl; exact rfl; exact rfl; kernel_rfl; (try simp only [Act.put, List.setIfInBounds_toArray, List.set_cons_succ, List.set_cons_zero])) | (apply ldt hs.b1; exact rfl; exact rfl; exact rfl; exact rfl; kernel_rfl; (try simp only [Act.put, List.setIfInBounds_toArray, List.set_cons_succ, List.set_cons_zero])) | (apply ldt hs.b2; exact rfl; exact rfl; exact rfl; exact rfl; kernel_rfl; (try simp only [Act.put, List.setIfInBounds_toArray, List.set_cons_succ, List.set_cons_zero])) | (apply ldot hs.b0; exact rfl; exact rfl; exact rfl; (first | exact rfl | exact ints_get (by omega)); kernel_rfl; (try simp only [Act.put, List.setIfInBounds_toArray, List.set_cons_succ, List.set_cons_zero])) | (apply ldot hs.b1; exact rfl; exact rfl; exact rfl; (first | exact rfl | exact ints_get (by omega)); kernel_rfl; (try simp only [Act.put, List.setIfInBounds_toArray, List.set_cons_succ, List.set_cons_zero])) | (apply ldot hs.b2; exact rfl; exact rfl; exact rfl; (first | exact rfl | exact ints_get (by omega)); kernel_rfl; (try simp only [Act.put, List.setIfInBounds_toArray, List.set_cons_succ, List.set_cons_zero])) | go_big_quiet_step (fail))); refine wpQuiet_nil ?_)
    | (apply ld hs.b0; exact rfl; exact rfl; exact rfl; exact rfl; kernel_rfl)
    | (apply ld hs.b1; exact rfl; exact rfl; exact rfl; exact rfl; kernel_rfl)
    | (apply ld hs.b2; exact rfl; exact rfl; exact rfl; exact rfl; kernel_rfl)
    | (apply ld hs.b3; exact rfl; exact rfl; exact rfl; exact rfl; kernel_rfl)
    | (apply ldo hs.b0; exact rfl; exact rfl; exact rfl; (first | exact rfl | exact ints_get (by omega)); kernel_rfl)
    | (apply ldo hs.b1; exact rfl; exact rfl; exact rfl; (first | exact rfl | exact ints_get (by omega)); kernel_rfl)
    | (apply ldo hs.b2; exact rfl; exact rfl; exact rfl; (first | exact rfl | exact ints_get (by omega)); kernel_rfl)
    | (apply st hs.b0; exact rfl; exact rfl; exact rfl; exact rfl; exact rfl; exact rfl; kernel_rfl; exact rfl; clear hs; intro w hs)
    | (apply st hs.b1; exact rfl; exact rfl; exact rfl; exact rfl; exact rfl; exact rfl; kernel_rfl; exact rfl; clear hs; intro w hs)
    | (apply st hs.b2; exact rfl; exact rfl; exact rfl; exact rfl; exact rfl; exact rfl; kernel_rfl; exact rfl; clear hs; intro w hs)
    | (apply st hs.b3; exact rfl; exact rfl; exact rfl; exact rfl; exact rfl; exact rfl; kernel_rfl; exact rfl; clear hs; intro w hs)
    | (apply stc hs.b0; exact rfl; exact rfl; exact rfl; exact rfl; exact rfl; kernel_rfl; exact rfl; clear hs; intro w hs)
    | (apply stc hs.b1; exact rfl; exact rfl; exact rfl; exact rfl; exact rfl; kernel_rfl; exact rfl; clear hs; intro w hs)
    | (apply stc hs.b2; exact rfl; exact rfl; exact rfl; exact rfl; exact rfl; kernel_rfl; exact rfl; clear hs; intro w hs)
    | (apply stc hs.b3; exact rfl; exact rfl; exact rfl; exact rfl; exact rfl; kernel_rfl; exact rfl; clear hs; intro w hs)
    | (apply sto hs.b0; exact rfl; exact rfl; exact rfl; exact rfl; exact rfl; (first | exact rfl | exact ints_some (by omega)); kernel_rfl; exact rfl; clear hs; intro w hs)
    | (apply sto hs.b1; exact rfl; exact rfl; exact rfl; exact rfl; exact rfl; (first | exact rfl | exact ints_some (by omega)); kernel_rfl; exact rfl; clear hs; intro w hs)
    | (apply sto hs.b2; exact rfl; exact rfl; exact rfl; exact rfl; exact rfl; (first | exact rfl | exact ints_some (by omega)); kernel_rfl; exact rfl; clear hs; intro w hs)
    | (refine wrap hs ?_; clear hs; intro w hs)
    | (refine wrapn hs ?_; clear hs; intro w hs)
    | (refine wrapd hs ?_; clear hs; intro w hs))
  all_goals
    refine end_end0 rfl rfl ?_
    exact ⟨rfl, HF.out _ _ (by simp only [List.getD_eq_getElem?_getD]; omega) hs⟩

theorem rdigit_any (b : Nat) (xs : List Int) (over : Bool) (d : Int) (hl : xs.length ≤ 1000) (hx : ∀ x ∈ xs, 0 ≤ x ∧ x ≤ 65535) (hs : sat W (rl b xs over :: H) w) :
    Calls Try.prog 18 #[.pointer (some ⟨b, 0, none⟩), .int .i64 d] w fun e w' => e = .returned (.tuple #[]) ∧ sat W (rl b (rdigit xs over d) over :: H) w' := by
  unfold rdigit
  by_cases h : d < 0 ∨ 9 < d ∨ over = true
  · rw [if_pos h]; exact rdigit_no b xs over d h hs
  · rw [if_neg h]
    simp only [not_or] at h
    obtain ⟨ha, hb, hc⟩ := h
    obtain rfl : over = false := by simpa using hc
    cases xs with
    | nil =>
      have := rdigit_none b d (by omega) (by omega) hs
      simpa [show min d 65535 = d from by omega] using this
    | cons x xs =>
      simpa using rdigit_some b (x :: xs) d (by omega) (by omega) (by simp) hl hx hs

set_option maxHeartbeats 400000 in
theorem rat_any (b : Nat) (xs : List Int) (over : Bool) (i d : Int) (hl : xs.length ≤ 1000) (hs : sat W (rl b xs over :: H) w) :
    Calls Try.prog 20 #[.pointer (some ⟨b, 0, none⟩), .int .i64 i, .int .i64 d] w fun e w' => e = .returned (.int .i64 (rat xs i d)) ∧ sat W (rl b xs over :: H) w' := by
  have hs0 := hs
  obtain ⟨v, hs⟩ := rl_open hs
  obtain ⟨a, c, rfl⟩ := hs.swap.own_slice
  by_cases h1 : i < 0
  · have HF := Lib.hid (show rat xs i d = d by unfold rat; rw [if_pos (.inl h1)])
    go_enter Try.func20, Try.ntmps20
    go_wp2_with (first
    | (apply ld hs.b0; exact rfl; exact rfl; exact rfl; exact rfl; kernel_rfl)
    | (apply ld hs.b1; exact rfl; exact rfl; exact rfl; exact rfl; kernel_rfl)
    | (apply st hs.b0; exact rfl; exact rfl; exact rfl; exact rfl; exact rfl; exact rfl; kernel_rfl; exact rfl; clear hs; intro w hs)
    | (apply st hs.b1; exact rfl; exact rfl; exact rfl; exact rfl; exact rfl; exact rfl; kernel_rfl; exact rfl; clear hs; intro w hs)
    | (apply stc hs.b0; exact rfl; exact rfl; exact rfl; exact rfl; exact rfl; kernel_rfl; exact rfl; clear hs; intro w hs)
    | (apply stc hs.b1; exact rfl; exact rfl; exact rfl; exact rfl; exact rfl; kernel_rfl; exact rfl; clear hs; intro w hs)
    | (refine wrap hs ?_; clear hs; intro w hs)
    | (refine wrapn hs ?_; clear hs; intro w hs)
    | (refine wrapd hs ?_; clear hs; intro w hs))
    go_ret
    exact ⟨ret_int HF.out, hs0⟩
  · by_cases h2 : (xs.length : Int) ≤ i
    · have HF := Lib.hid (show rat xs i d = d by unfold rat; rw [if_pos (.inr (.inl h2))])
      have e1 : decide (i < 0) = false := by simpa using h1
      go_enter Try.func20, Try.ntmps20
      go_wp2_with (first
    | (apply ld hs.b0; exact rfl; exact rfl; exact rfl; exact rfl; kernel_rfl)
    | (apply ld hs.b1; exact rfl; exact rfl; exact rfl; exact rfl; kernel_rfl)
    | (apply st hs.b0; exact rfl; exact rfl; exact rfl; exact rfl; exact rfl; exact rfl; kernel_rfl; exact rfl; clear hs; intro w hs)
    | (apply st hs.b1; exact rfl; exact rfl; exact rfl; exact rfl; exact rfl; exact rfl; kernel_rfl; exact rfl; clear hs; intro w hs)
    | (apply stc hs.b0; exact rfl; exact rfl; exact rfl; exact rfl; exact rfl; kernel_rfl; exact rfl; clear hs; intro w hs)
    | (apply stc hs.b1; exact rfl; exact rfl; exact rfl; exact rfl; exact rfl; kernel_rfl; exact rfl; clear hs; intro w hs)
    | (refine wrap hs ?_; clear hs; intro w hs)
    | (refine wrapn hs ?_; clear hs; intro w hs)
    | (refine wrapd hs ?_; clear hs; intro w hs))
      go_ret
      exact ⟨ret_int HF.out, hs0⟩
    · obtain ⟨k, rfl⟩ := Int.eq_ofNat_of_zero_le (show 0 ≤ i by omega)
      have hk : k < xs.length := by omega
      obtain ⟨g, c', e⟩ := hs.swap.own_some (by omega)
      cases e
      have e1 : decide ((k : Int) < 0) = false := by simp
      obtain ⟨y, hy⟩ : ∃ y, xs.getD k 0 = y := ⟨_, rfl⟩
      have hg : (xs.map (Value.int .i64))[k]? = some (.int .i64 y) := by rw [← hy]; exact ints_get hk
      have HG := Lib.hid hg
      by_cases h3 : y = 0
      · have HF := Lib.hid (show rat xs k d = d by unfold rat; rw [if_pos (.inr (.inr (by rw [Int.toNat_natCast, hy]; exact h3)))])
        subst h3
        clear hy hg
        go_enter Try.func20, Try.ntmps20
        go_wp2_with (first
    | (apply ldo hs.b1; exact rfl; exact rfl; exact rfl; exact HG.out; kernel_rfl)
    | (apply ld hs.b0; exact rfl; exact rfl; exact rfl; exact rfl; kernel_rfl)
    | (apply ld hs.b1; exact rfl; exact rfl; exact rfl; exact rfl; kernel_rfl)
    | (apply st hs.b0; exact rfl; exact rfl; exact rfl; exact rfl; exact rfl; exact rfl; kernel_rfl; exact rfl; clear hs; intro w hs)
    | (apply st hs.b1; exact rfl; exact rfl; exact rfl; exact rfl; exact rfl; exact rfl; kernel_rfl; exact rfl; clear hs; intro w hs)
    | (apply stc hs.b0; exact rfl; exact rfl; exact rfl; exact rfl; exact rfl; kernel_rfl; exact rfl; clear hs; intro w hs)
    | (apply stc hs.b1; exact rfl; exact rfl; exact rfl; exact rfl; exact rfl; kernel_rfl; exact rfl; clear hs; intro w hs)
    | (refine wrap hs ?_; clear hs; intro w hs)
    | (refine wrapn hs ?_; clear hs; intro w hs)
    | (refine wrapd hs ?_; clear hs; intro w hs))
        go_ret
        exact ⟨ret_int HF.out, hs0⟩
      · have HF := Lib.hid (show rat xs k d = y by unfold rat; rw [if_neg (by simp only [not_or]; exact ⟨by omega, by omega, by rw [Int.toNat_natCast, hy]; exact h3⟩)]; simpa using hy)
        have hne : (y == 0) = false := by simpa using h3
        clear hy hg
        go_enter Try.func20, Try.ntmps20
        go_wp2_with (first
    | (apply ldo hs.b1; exact rfl; exact rfl; exact rfl; exact HG.out; kernel_rfl)
    | (apply ld hs.b0; exact rfl; exact rfl; exact rfl; exact rfl; kernel_rfl)
    | (apply ld hs.b1; exact rfl; exact rfl; exact rfl; exact rfl; kernel_rfl)
    | (apply st hs.b0; exact rfl; exact rfl; exact rfl; exact rfl; exact rfl; exact rfl; kernel_rfl; exact rfl; clear hs; intro w hs)
    | (apply st hs.b1; exact rfl; exact rfl; exact rfl; exact rfl; exact rfl; exact rfl; kernel_rfl; exact rfl; clear hs; intro w hs)
    | (apply stc hs.b0; exact rfl; exact rfl; exact rfl; exact rfl; exact rfl; kernel_rfl; exact rfl; clear hs; intro w hs)
    | (apply stc hs.b1; exact rfl; exact rfl; exact rfl; exact rfl; exact rfl; kernel_rfl; exact rfl; clear hs; intro w hs)
    | (refine wrap hs ?_; clear hs; intro w hs)
    | (refine wrapn hs ?_; clear hs; intro w hs)
    | (refine wrapd hs ?_; clear hs; intro w hs))
        go_ret
        exact ⟨ret_int HF.out, hs0⟩

end Go.Proofs.Ytappjlebkjmooaa
