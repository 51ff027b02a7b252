import Derived.Test.YtappjlebkjmooaaP9
import Derived.Deep.RegionHeld3
namespace Go.Proofs.Ytappjlebkjmooaa
open Go.RowKit Go.Mem
variable {W w : World} {H : List HProp}
attribute [local irreducible] World.setCell World.alloc World.drew World.drewN Calls sat cel own blk old plist wpQuiet rl

set_option maxHeartbeats 400000 in
theorem rat_q (b : Nat) (v : Value) (xs : List Int) (over : Bool) (i d : Int) (hl : xs.length ≤ 1000) (hs : sat W (cel b 38 [v, .bool over] :: own 3 1 v xs.length (xs.map (Value.int .i64)) :: H) w) :
    Calls Try.prog 20 #[.pointer (some ⟨b, 0, none⟩), .int .i64 i, .int .i64 d] w fun e w' => e = .returned (.int .i64 (rat xs i d)) ∧ ∃ n, w' = w.drewN n := by
  obtain ⟨a, c, rfl⟩ := hs.swap.own_slice
  by_cases h1 : i < 0
  · have HF := Lib.hid (show rat xs i d = d by unfold rat; rw [if_pos (.inl h1)])
    go_enter Try.func20, Try.ntmps20
    go_wp2_with (first
    | (apply ld hs.b0; exact rfl; exact rfl; exact rfl; exact rfl; kernel_rfl)
    | (apply ld hs.b1; exact rfl; exact rfl; exact rfl; exact rfl; kernel_rfl)
    | (apply st hs.b0; exact rfl; exact rfl; exact rfl; exact rfl; exact rfl; exact rfl; kernel_rfl; exact rfl; clear hs; intro w hs)
    | (apply st hs.b1; exact rfl; exact rfl; exact rfl; exact rfl; exact rfl; exact rfl; kernel_rfl; exact rfl; clear hs; intro w hs)
    | (apply stc hs.b0; exact rfl; exact rfl; exact rfl; exact rfl; exact rfl; kernel_rfl; exact rfl; clear hs; intro w hs)
    | (apply stc hs.b1; exact rfl; exact rfl; exact rfl; exact rfl; exact rfl; kernel_rfl; exact rfl; clear hs; intro w hs)
    | (refine wrap hs ?_; clear hs; intro w hs)
    | (refine wrapn hs ?_; clear hs; intro w hs)
    | (refine wrapd hs ?_; clear hs; intro w hs))
    go_ret
    exact ⟨ret_int HF.out, 0, (World.drewN_zero _).symm⟩
  · by_cases h2 : (xs.length : Int) ≤ i
    · have HF := Lib.hid (show rat xs i d = d by unfold rat; rw [if_pos (.inr (.inl h2))])
      have e1 : decide (i < 0) = false := by simpa using h1
      go_enter Try.func20, Try.ntmps20
      go_wp2_with (first
    | (apply ld hs.b0; exact rfl; exact rfl; exact rfl; exact rfl; kernel_rfl)
    | (apply ld hs.b1; exact rfl; exact rfl; exact rfl; exact rfl; kernel_rfl)
    | (apply st hs.b0; exact rfl; exact rfl; exact rfl; exact rfl; exact rfl; exact rfl; kernel_rfl; exact rfl; clear hs; intro w hs)
    | (apply st hs.b1; exact rfl; exact rfl; exact rfl; exact rfl; exact rfl; exact rfl; kernel_rfl; exact rfl; clear hs; intro w hs)
    | (apply stc hs.b0; exact rfl; exact rfl; exact rfl; exact rfl; exact rfl; kernel_rfl; exact rfl; clear hs; intro w hs)
    | (apply stc hs.b1; exact rfl; exact rfl; exact rfl; exact rfl; exact rfl; kernel_rfl; exact rfl; clear hs; intro w hs)
    | (refine wrap hs ?_; clear hs; intro w hs)
    | (refine wrapn hs ?_; clear hs; intro w hs)
    | (refine wrapd hs ?_; clear hs; intro w hs))
      go_ret
      exact ⟨ret_int HF.out, 0, (World.drewN_zero _).symm⟩
    · obtain ⟨k, rfl⟩ := Int.eq_ofNat_of_zero_le (show 0 ≤ i by omega)
      have hk : k < xs.length := by omega
      obtain ⟨g, c', e⟩ := hs.swap.own_some (by omega)
      cases e
      have e1 : decide ((k : Int) < 0) = false := by simp
      obtain ⟨y, hy⟩ : ∃ y, xs.getD k 0 = y := ⟨_, rfl⟩
      have hg : (xs.map (Value.int .i64))[k]? = some (.int .i64 y) := by rw [← hy]; exact ints_get hk
      have HG := Lib.hid hg
      by_cases h3 : y = 0
      · have HF := Lib.hid (show rat xs k d = d by unfold rat; rw [if_pos (.inr (.inr (by rw [Int.toNat_natCast, hy]; exact h3)))])
        subst h3
        clear hy hg
        go_enter Try.func20, Try.ntmps20
        go_wp2_with (first
    | (apply ldo hs.b1; exact rfl; exact rfl; exact rfl; exact HG.out; kernel_rfl)
    | (apply ld hs.b0; exact rfl; exact rfl; exact rfl; exact rfl; kernel_rfl)
    | (apply ld hs.b1; exact rfl; exact rfl; exact rfl; exact rfl; kernel_rfl)
    | (apply st hs.b0; exact rfl; exact rfl; exact rfl; exact rfl; exact rfl; exact rfl; kernel_rfl; exact rfl; clear hs; intro w hs)
    | (apply st hs.b1; exact rfl; exact rfl; exact rfl; exact rfl; exact rfl; exact rfl; kernel_rfl; exact rfl; clear hs; intro w hs)
    | (apply stc hs.b0; exact rfl; exact rfl; exact rfl; exact rfl; exact rfl; kernel_rfl; exact rfl; clear hs; intro w hs)
    | (apply stc hs.b1; exact rfl; exact rfl; exact rfl; exact rfl; exact rfl; kernel_rfl; exact rfl; clear hs; intro w hs)
    | (refine wrap hs ?_; clear hs; intro w hs)
    | (refine wrapn hs ?_; clear hs; intro w hs)
    | (refine wrapd hs ?_; clear hs; intro w hs))
        go_ret
        exact ⟨ret_int HF.out, 0, (World.drewN_zero _).symm⟩
      · have HF := Lib.hid (show rat xs k d = y by unfold rat; rw [if_neg (by simp only [not_or]; exact ⟨by omega, by omega, by rw [Int.toNat_natCast, hy]; exact h3⟩)]; simpa using hy)
        have hne : (y == 0) = false := by simpa using h3
        clear hy hg
        go_enter Try.func20, Try.ntmps20
        go_wp2_with (first
    | (apply ldo hs.b1; exact rfl; exact rfl; exact rfl; exact HG.out; kernel_rfl)
    | (apply ld hs.b0; exact rfl; exact rfl; exact rfl; exact rfl; kernel_rfl)
    | (apply ld hs.b1; exact rfl; exact rfl; exact rfl; exact rfl; kernel_rfl)
    | (apply st hs.b0; exact rfl; exact rfl; exact rfl; exact rfl; exact rfl; exact rfl; kernel_rfl; exact rfl; clear hs; intro w hs)
    | (apply st hs.b1; exact rfl; exact rfl; exact rfl; exact rfl; exact rfl; exact rfl; kernel_rfl; exact rfl; clear hs; intro w hs)
    | (apply stc hs.b0; exact rfl; exact rfl; exact rfl; exact rfl; exact rfl; kernel_rfl; exact rfl; clear hs; intro w hs)
    | (apply stc hs.b1; exact rfl; exact rfl; exact rfl; exact rfl; exact rfl; kernel_rfl; exact rfl; clear hs; intro w hs)
    | (refine wrap hs ?_; clear hs; intro w hs)
    | (refine wrapn hs ?_; clear hs; intro w hs)
    | (refine wrapd hs ?_; clear hs; intro w hs))
        go_ret
        exact ⟨ret_int HF.out, 0, (World.drewN_zero _).symm⟩


/-! ## The program's list behind the document's -/
def toPL (xs : List Int) (over : Bool) : PL := ⟨xs ++ List.replicate (32 - xs.length) 0, xs.length, over⟩
theorem toPL_new : PL.new = toPL [] false := rfl
theorem toPL_values (xs : List Int) (over : Bool) : values (toPL xs over) = xs := by
  show List.take xs.length (xs ++ _) = xs
  rw [List.take_append_of_le_length (Nat.le_refl _), List.take_length]
theorem toPL_at (xs : List Int) (over : Bool) (i d : Int) : at' (toPL xs over) i d = rat xs i d := by
  unfold at' rat
  show (if i < 0 ∨ (xs.length : Int) ≤ i ∨ (xs ++ List.replicate (32 - xs.length) (0 : Int)).getD i.toNat 0 = 0 then d else (xs ++ List.replicate (32 - xs.length) (0 : Int)).getD i.toNat 0) = _
  by_cases h : i < 0 ∨ (xs.length : Int) ≤ i
  · rw [if_pos (by rcases h with h | h; exact .inl h; exact .inr (.inl h)), if_pos (by rcases h with h | h; exact .inl h; exact .inr (.inl h))]
  · simp only [not_or] at h
    have e : (xs ++ List.replicate (32 - xs.length) (0 : Int)).getD i.toNat 0 = xs.getD i.toNat 0 := by
      rw [List.getD_eq_getElem?_getD, List.getElem?_append_left (by omega), List.getD_eq_getElem?_getD]
    rw [e]
theorem toPL_snoc (xs : List Int) (over : Bool) (h : xs.length < 32) : (⟨xs ++ List.replicate (32 - xs.length) 0, xs.length + 1, over⟩ : PL) = toPL (xs ++ [0]) over := by
  unfold toPL
  have e : List.replicate (32 - xs.length) (0 : Int) = 0 :: List.replicate (32 - (xs ++ [0]).length) 0 := by
    rw [show 32 - xs.length = (32 - (xs ++ [0]).length) + 1 from by simp; omega]; rfl
  rw [e, List.append_assoc]
  simp
theorem toPL_next (xs : List Int) (over : Bool) (h : xs.length ≤ 32) : next (toPL xs over) = toPL (rnext xs over).1 (rnext xs over).2 := by
  cases xs with
  | nil => rfl
  | cons x xs =>
    unfold next
    by_cases h32 : (x :: xs).length = 32
    · rw [if_pos (show (toPL (x :: xs) over).n = 32 from h32)]
      have e : rnext (x :: xs) over = (x :: xs, true) := by unfold rnext; simp only [reduceCtorEq, if_false]; rw [if_pos (by omega)]
      rw [e]; rfl
    · rw [if_neg (show ¬(toPL (x :: xs) over).n = 32 from h32)]
      have e : rnext (x :: xs) over = ((x :: xs) ++ [0], over) := by unfold rnext; simp only [reduceCtorEq, if_false]; rw [if_neg (by omega)]
      rw [e, ← toPL_snoc _ _ (by omega)]
      show (⟨_, max (x :: xs).length 1 + 1, over⟩ : PL) = _
      rw [show max (x :: xs).length 1 = (x :: xs).length from by simp]
      rfl
theorem toPL_digit (xs : List Int) (over : Bool) (d : Int) (h : xs.length ≤ 32) : digit (toPL xs over) d = toPL (rdigit xs over d) over := by
  unfold digit rdigit
  by_cases hg : d < 0 ∨ 9 < d ∨ over = true
  · rw [if_pos (show d < 0 ∨ 9 < d ∨ (toPL xs over).full = true from hg), if_pos hg]
  · rw [if_neg (show ¬(d < 0 ∨ 9 < d ∨ (toPL xs over).full = true) from hg), if_neg hg]
    cases xs with
    | nil => rfl
    | cons x xs =>
      simp only [reduceCtorEq, if_false]
      unfold toPL
      simp only [List.length_set]
      rw [show max (x :: xs).length 1 = (x :: xs).length from by simp, List.set_append_left _ _ (by simp)]
      rw [List.getD_eq_getElem?_getD, List.getElem?_append_left (by simp), ← List.getD_eq_getElem?_getD]
/-- What the document's list always is. -/
def RInv (xs : List Int) : Prop := xs.length ≤ 32 ∧ ∀ x ∈ xs, 0 ≤ x ∧ x ≤ 65535
theorem RInv.nil : RInv [] := ⟨by simp, by simp⟩
theorem RInv.one {xs : List Int} (h : ∀ x ∈ xs, x = 0) (hl : xs.length ≤ 32) : RInv xs := ⟨hl, fun x hx => by rw [h x hx]; decide⟩
theorem RInv.next {xs : List Int} (h : RInv xs) (over : Bool) : RInv (rnext xs over).1 := by
  cases xs with
  | nil => exact RInv.one (xs := [0, 0]) (by simp) (by simp)
  | cons x xs =>
    by_cases h32 : 32 ≤ (x :: xs).length
    · have e : rnext (x :: xs) over = (x :: xs, true) := by unfold rnext; simp only [reduceCtorEq, if_false]; rw [if_pos h32]
      rw [e]; exact h
    · have e : rnext (x :: xs) over = ((x :: xs) ++ [0], over) := by unfold rnext; simp only [reduceCtorEq, if_false]; rw [if_neg h32]
      rw [e]
      refine ⟨by simp at h32 ⊢; omega, fun y hy => ?_⟩
      rcases List.mem_append.1 hy with hy | hy
      · exact h.2 y hy
      · have : y = 0 := by simpa using hy
        subst this; decide
theorem RInv.digit {xs : List Int} (h : RInv xs) (over : Bool) (d : Int) : RInv (rdigit xs over d) := by
  unfold rdigit
  by_cases hg : d < 0 ∨ 9 < d ∨ over = true
  · rw [if_pos hg]; exact h
  · rw [if_neg hg]
    have hy : RInv (if xs = [] then [0] else xs) := by
      split
      · exact RInv.one (by simp) (by simp)
      · exact h
    refine ⟨by simpa using hy.1, fun x hx => ?_⟩
    rcases List.mem_or_eq_of_mem_set hx with hx | rfl
    · exact hy.2 x hx
    · have : 0 ≤ (if xs = [] then [0] else xs).getD ((if xs = [] then [0] else xs).length - 1) 0 := by
        rw [List.getD_eq_getElem?_getD]
        cases he : (if xs = [] then [0] else xs)[(if xs = [] then [0] else xs).length - 1]? with
        | none => simp
        | some u => exact (hy.2 u (List.mem_of_getElem? he)).1
      simp only [not_or] at hg
      omega
end Go.Proofs.Ytappjlebkjmooaa
