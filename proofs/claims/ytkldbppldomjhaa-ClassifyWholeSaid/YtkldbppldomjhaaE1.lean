/- The ring of awaited runes as plain functions. -/
import Derived.WalkKit
namespace Go.Typed
structure One where
  r : Int
  to : Int
/-- The first k places of a ring, as cells. -/
def ringC (g : Nat → One) : Nat → List Value
  | 0 => []
  | k + 1 => ringC g k ++ [.int .i32 (g k).r, .int .i64 (g k).to]
theorem ringC_len (g : Nat → One) : ∀ k, (ringC g k).length = 2 * k
  | 0 => rfl
  | k + 1 => by simp [ringC, ringC_len g k]; omega
theorem ringC_r (g : Nat → One) (i : Nat) : ∀ k, i < k → (ringC g k)[2 * i]? = some (.int .i32 (g i).r)
  | k + 1, h => by
    unfold ringC
    by_cases e : i = k
    · subst e; rw [List.getElem?_append_right (by rw [ringC_len]; omega), ringC_len]; simp
    · rw [List.getElem?_append_left (by rw [ringC_len]; omega)]; exact ringC_r g i k (by omega)
theorem ringC_to (g : Nat → One) (i : Nat) : ∀ k, i < k → (ringC g k)[2 * i + 1]? = some (.int .i64 (g i).to)
  | k + 1, h => by
    unfold ringC
    by_cases e : i = k
    · subst e; rw [List.getElem?_append_right (by rw [ringC_len]; omega), ringC_len]; simp
    · rw [List.getElem?_append_left (by rw [ringC_len]; omega)]; exact ringC_to g i k (by omega)
def upd (g : Nat → One) (i : Nat) (x : One) : Nat → One := fun j => if j = i then x else g j
theorem ringC_upd_ge (g : Nat → One) (i : Nat) (x : One) : ∀ k, k ≤ i → ringC (upd g i x) k = ringC g k
  | 0, _ => rfl
  | k + 1, h => by simp [ringC, ringC_upd_ge g i x k (by omega), upd, show k ≠ i by omega]
theorem ringC_upd (g : Nat → One) (i : Nat) (x : One) : ∀ k, i < k → ((ringC g k).set (2 * i) (.int .i32 x.r)).set (2 * i + 1) (.int .i64 x.to) = ringC (upd g i x) k
  | k + 1, h => by
    unfold ringC
    by_cases e : i = k
    · subst e
      rw [ringC_upd_ge g i x i (by omega), List.set_append_right _ _ (by rw [ringC_len]; omega), List.set_append_right _ _ (by rw [ringC_len]; omega), ringC_len]
      simp [upd]
    · rw [← ringC_upd g i x k (by omega), List.set_append_left _ _ (by rw [ringC_len]; omega), List.set_append_left _ _ (by simp [ringC_len]; omega)]
      simp [upd, show k ≠ i by omega]
/-- The list's cells. -/
def tyL (g : Nat → One) (f n : Nat) (life now : Int) : List Value := ringC g 64 ++ [.int .i64 f, .int .i64 n, .int .i64 life, .int .i64 now]
variable {g : Nat → One} {f n : Nat} {life now : Int}
theorem tyL_len : (tyL g f n life now).length = 132 := by simp [tyL, ringC_len]
theorem ty_f : (tyL g f n life now)[128]? = some (.int .i64 f) := by unfold tyL; rw [List.getElem?_append_right (by rw [ringC_len]; omega), ringC_len]; rfl
theorem ty_n : (tyL g f n life now)[129]? = some (.int .i64 n) := by unfold tyL; rw [List.getElem?_append_right (by rw [ringC_len]; omega), ringC_len]; rfl
theorem ty_life : (tyL g f n life now)[130]? = some (.int .i64 life) := by unfold tyL; rw [List.getElem?_append_right (by rw [ringC_len]; omega), ringC_len]; rfl
theorem ty_now : (tyL g f n life now)[131]? = some (.int .i64 now) := by unfold tyL; rw [List.getElem?_append_right (by rw [ringC_len]; omega), ringC_len]; rfl
theorem ty_r {i : Nat} (h : i < 64) : (tyL g f n life now)[i * 2]? = some (.int .i32 (g i).r) := by rw [Nat.mul_comm]; unfold tyL; rw [List.getElem?_append_left (by rw [ringC_len]; omega)]; exact ringC_r g i 64 h
theorem ty_to {i : Nat} (h : i < 64) : (tyL g f n life now)[i * 2 + 1]? = some (.int .i64 (g i).to) := by rw [Nat.mul_comm]; unfold tyL; rw [List.getElem?_append_left (by rw [ringC_len]; omega)]; exact ringC_to g i 64 h
theorem set_f (f' : Int) (f2 : Nat) (h : f' = f2) : (tyL g f n life now).set 128 (.int .i64 f') = tyL g f2 n life now := by
  subst h; unfold tyL; rw [List.set_append_right _ _ (by rw [ringC_len]; omega), ringC_len]; rfl
theorem set_n (f' : Int) (f2 : Nat) (h : f' = f2) : (tyL g f n life now).set 129 (.int .i64 f') = tyL g f f2 life now := by
  subst h; unfold tyL; rw [List.set_append_right _ _ (by rw [ringC_len]; omega), ringC_len]; rfl
theorem set_now (x : Int) : (tyL g f n life now).set 131 (.int .i64 x) = tyL g f n life x := by
  unfold tyL; rw [List.set_append_right _ _ (by rw [ringC_len]; omega), ringC_len]; rfl
theorem set_one {i : Nat} (h : i < 64) (x : One) : ((tyL g f n life now).set (i * 2) (.int .i32 x.r)).set (i * 2 + 1) (.int .i64 x.to) = tyL (upd g i x) f n life now := by
  rw [Nat.mul_comm]
  unfold tyL
  rw [List.set_append_left _ _ (by rw [ringC_len]; omega), List.set_append_left _ _ (by simp [ringC_len]; omega), ringC_upd g i x 64 h]
/-- What is awaited, the first one at first. -/
def queue (g : Nat → One) (f n : Nat) : List One := (List.range n).map fun i => g ((f + i) % 64)
theorem queue_len : (queue g f n).length = n := by simp [queue]
theorem queue_get {i : Nat} (h : i < n) : (queue g f n)[i]? = some (g ((f + i) % 64)) := by simp [queue, h]
theorem queue_drop (h : 0 < n) : queue g ((f + 1) % 64) (n - 1) = (queue g f n).drop 1 := by
  apply List.ext_getElem?
  intro i
  rw [List.getElem?_drop]
  by_cases hi : i < n - 1
  · rw [queue_get hi, queue_get (show 1 + i < n by omega)]
    congr 2
    omega
  · rw [List.getElem?_eq_none (by rw [queue_len]; omega), List.getElem?_eq_none (by rw [queue_len]; omega)]
theorem queue_put (x : One) (h : n < 64) : queue (upd g ((f + n) % 64) x) f (n + 1) = queue g f n ++ [x] := by
  apply List.ext_getElem?
  intro i
  by_cases hi : i < n
  · rw [queue_get (show i < n + 1 by omega), List.getElem?_append_left (by rw [queue_len]; omega), queue_get hi]
    unfold upd
    rw [if_neg (by omega)]
  · by_cases he : i = n
    · subst he
      rw [queue_get (by omega), List.getElem?_append_right (by rw [queue_len]; omega), queue_len]
      simp [upd]
    · rw [List.getElem?_eq_none (by rw [queue_len]; omega), List.getElem?_eq_none (by simp [queue_len]; omega)]
/-- The greatest tick so far. -/
def tick (now0 now : Int) : Int := max now0 (min now 1099511627776)
/-- Those ahead that are awaited no more. -/
def expire (t : Int) : List One → List One
  | [] => []
  | x :: l => if x.to ≤ t then expire t l else x :: l
end Go.Typed
