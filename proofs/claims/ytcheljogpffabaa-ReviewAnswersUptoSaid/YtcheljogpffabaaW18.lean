/- Law 20: Cover's walk. -/
import Derived.Test.YtcheljogpffabaaW14
import Derived.Test.YtcheljogpffabaaW12
import Derived.Test.YtcheljogpffabaaW17
import Derived.Test.YtcheljogpffabaaSo
namespace Go.Proofs.Ytcheljogpffabaa
open Go.RowKit Go.Mem Go.Words Go.Deep
variable {W w : World} {H : List HProp}
theorem info3 : (Try.prog.info? 3).map (fun i => (i.zero, i.size, i.bytes)) = some (some (.int .i64 0), 1, 8) := by kernel_rfl
/-- The numbers F 0, F 1, .. -/
def rng (n : Nat) (F : Nat → Nat) : List Nat := (List.range n).map F
theorem rng_len (n : Nat) (F : Nat → Nat) : (rng n F).length = n := by simp [rng]
theorem rng_get {n c : Nat} (F : Nat → Nat) (h : c < n) : (nums .i64 (rng n F))[c]? = some (.int .i64 (F c : Nat)) := by simp [nums, rng, h]
theorem rng_zero (n : Nat) : List.replicate n (Value.int .i64 0) = nums .i64 (rng n (fun _ => 0)) := by
  apply List.ext_getElem (by simp [nums, rng])
  intro i h1 h2
  simp [nums, rng]
theorem rng_set {n c : Nat} {F : Nat → Nat} (v : Nat) (h : c < n) : (nums .i64 (rng n F)).set c (.int .i64 ((v : Nat) : Int)) = nums .i64 (rng n (fun j => if j = c then v else F j)) := by
  apply List.ext_getElem (by simp [nums, rng])
  intro i h1 h2
  have hi : i < n := by simpa [nums, rng] using h2
  rw [List.getElem_set]
  by_cases e : c = i
  · subst e; simp [nums, rng]
  · rw [if_neg e]; simp [nums, rng, Ne.symm e]
def part (ws : List (Nat × Nat)) (x : Nat × Nat) (c : Nat) (j : Nat) : Nat := cnt ws j + (if x.1 ≤ j ∧ j < c then 1 else 0)
theorem part_start {ws : List (Nat × Nat)} {x1 x2 : Nat} : part ws (x1, x2) x1 = cnt ws := by
  funext j
  unfold part
  rw [if_neg (by simp only; omega), Nat.add_zero]
theorem part_at {ws : List (Nat × Nat)} {x1 x2 c : Nat} : part ws (x1, x2) c c = cnt ws c := by
  unfold part
  rw [if_neg (by simp only; omega), Nat.add_zero]
theorem part_step {n : Nat} {ws : List (Nat × Nat)} {x : Nat × Nat} {c : Nat} (h1 : x.1 ≤ c) (h2 : c < x.2) : rng n (fun j => if j = c then cnt ws c + 1 else part ws x c j) = rng n (part ws x (c + 1)) := by
  unfold rng
  congr 1
  funext j
  unfold part
  by_cases e : j = c
  · subst e; rw [if_pos rfl, if_pos (by omega)]
  · rw [if_neg e]
    by_cases h3 : x.1 ≤ j ∧ j < c
    · rw [if_pos h3, if_pos (by omega)]
    · rw [if_neg h3, if_neg (by omega)]
theorem part_end {ws : List (Nat × Nat)} {i : Nat} {x : Nat × Nat} (h : ws[i]? = some x) : part (ws.take i) x x.2 = cnt (ws.take (i + 1)) := by
  funext j
  have hi := (List.getElem?_eq_some_iff.1 h).1
  rw [List.take_succ_eq_append_getElem hi, (List.getElem?_eq_some_iff.1 h).2, cnt_snoc]
  rfl
theorem ext_cell {W w : World} {H : List HProp} {g n c k : Nat} {L : List (Nat × Nat)} {x : Nat × Nat} (hs : sat W (own 87 2 (.slice (some ⟨g, 0, none⟩) n c) n (exs L) :: H) w) (h : L[k]? = some x) : w.rangeAt g (k * 2) (exC x) := by
  obtain ⟨_, b, off, e, h2⟩ := (exs_sr hs).2.2.2 w hs k (exC x) (by rw [List.getElem?_map, h]; rfl)
  cases e
  rwa [Nat.zero_add] at h2
theorem word_t {t : Nat} {x : Tx} {ws : List (Nat × Nat)} {col : Int} {y : Nat × Nat} (e : words x.blank = ws) (e2 : wordW ws col = some y) (hn : x.blank.length ≤ 1000) (hs : sat W (tx t x :: H) w) : Calls Try.prog 59 #[.pointer (some ⟨t, 0, none⟩), .int .i64 col] w fun e w' => e = .returned (.tuple #[exV y, .bool true]) ∧ sat W (tx t x :: H) w' := by
  have := word17 (Hc := [tx t x]) (ws_tx e hn) col hs
  rw [e2] at this
  exact this
attribute [local irreducible] World.setCell World.setCells World.alloc World.drew World.drewN Calls sat cel own blk old wpQuiet wpList tx
variable {a : Option Addr} {n cp : Nat} {L : List Cm}
end Go.Proofs.Ytcheljogpffabaa
