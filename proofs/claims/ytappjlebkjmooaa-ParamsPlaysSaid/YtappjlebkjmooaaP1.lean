import Derived.Test.YtappjlebkjmooaaRows
import Derived.Test.YtappjlebkjmooaaSat
import Derived.Outline
namespace Go.Proofs.Ytappjlebkjmooaa
open Go.RowKit Go.Mem

/-! ## The program's list -/
structure PL where
  l : List Int
  n : Nat
  full : Bool

def PL.ok (L : PL) : Prop := L.l.length = 32 ∧ L.n ≤ 32 ∧ ∀ x ∈ L.l, 0 ≤ x ∧ x ≤ 65535
def PL.cells (L : PL) : Array Value := (L.l.map (Value.int .i64) ++ [Value.int .i64 L.n, Value.bool L.full]).toArray
def plist (b : Nat) (L : PL) : HProp := fun h => L.ok ∧ blk b (.cells L.cells 43) h
def PL.new : PL := ⟨List.replicate 32 0, 0, false⟩

theorem PL.cell_n {L : PL} (h : L.ok) : L.cells[32]? = some (.int .i64 L.n) := by
  simp [PL.cells, h.1]
theorem PL.cell_full {L : PL} (h : L.ok) : L.cells[33]? = some (.bool L.full) := by
  simp [PL.cells, h.1]
theorem PL.cell_l {L : PL} (h : L.ok) {i : Nat} (hi : i < 32) : L.cells[i]? = some (.int .i64 (L.l.getD i 0)) := by
  have := h.1
  simp [PL.cells, List.getElem?_append, this, hi]
theorem PL.set_l (L : PL) (h : L.l.length = 32) {i : Nat} (hi : i < 32) (x : Int) : L.cells.setIfInBounds i (.int .i64 x) = ({ L with l := L.l.set i x } : PL).cells := by
  simp [PL.cells, List.set_append, h, hi, List.map_set]
theorem PL.set_n (L : PL) (h : L.l.length = 32) (n : Nat) : L.cells.setIfInBounds 32 (.int .i64 n) = ({ L with n := n } : PL).cells := by
  simp [PL.cells, List.set_append, h]
theorem PL.set_full (L : PL) (h : L.l.length = 32) (f : Bool) : L.cells.setIfInBounds 33 (.bool f) = ({ L with full := f } : PL).cells := by
  simp [PL.cells, List.set_append, h]
theorem PL.mk_ok {L : PL} {W w : World} {H : List HProp} {b : Nat} (hs : sat W (blk b (.cells L.cells 43) :: H) w) (h : L.ok) : sat W (plist b L :: H) w :=
  hs.imp fun _ hb => ⟨h, hb⟩
theorem PL.getD_bd {L : PL} (h : L.ok) (i : Nat) : 0 ≤ L.l.getD i 0 ∧ L.l.getD i 0 ≤ 65535 := by
  by_cases hi : i < L.l.length
  · rw [List.getD_eq_getElem?_getD, List.getElem?_eq_getElem hi]; exact h.2.2 _ (List.getElem_mem hi)
  · rw [List.getD_eq_getElem?_getD, List.getElem?_eq_none (by omega)]; simp
theorem PL.new_ok : PL.new.ok := ⟨rfl, by decide, by decide⟩

def digit (L : PL) (d : Int) : PL :=
  if d < 0 ∨ 9 < d ∨ L.full = true then L else
  { l := L.l.set (max L.n 1 - 1) (min (L.l.getD (max L.n 1 - 1) 0 * 10 + d) 65535), n := max L.n 1, full := L.full }
def next (L : PL) : PL := if L.n = 32 then { L with full := true } else { L with n := max L.n 1 + 1 }
def at' (L : PL) (i none : Int) : Int := if i < 0 ∨ (L.n : Int) ≤ i ∨ L.l.getD i.toNat 0 = 0 then none else L.l.getD i.toNat 0
def values (L : PL) : List Int := L.l.take L.n

theorem digit_ok {L : PL} (h : L.ok) (d : Int) : (digit L d).ok := by
  unfold digit
  split
  · exact h
  · rename_i hc
    refine ⟨by simp [h.1], by have := h.2.1; show max L.n 1 ≤ 32; omega, fun x hx => ?_⟩
    rcases List.mem_or_eq_of_mem_set hx with hx | rfl
    · exact h.2.2 x hx
    · have := PL.getD_bd h (max L.n 1 - 1); omega
theorem next_ok {L : PL} (h : L.ok) : (next L).ok := by
  unfold next
  obtain ⟨h1, h2, h3⟩ := h
  split
  · exact ⟨h1, h2, h3⟩
  · exact ⟨h1, by show max L.n 1 + 1 ≤ 32; omega, h3⟩

variable {W w : World} {H : List HProp}

theorem list_nil (w : World) : Calls Try.prog 21 #[.pointer none] w fun e w' => e = .returned (.slice none 0 0) ∧ ∃ n, w' = w.drewN n := by
  go_enter Try.func21, Try.ntmps21
  go_wp2
  go_ret
  exact ⟨rfl, 0, rfl⟩

/-- What a reader is told of a list in memory. -/
def PIn (w : World) (b : Nat) (L : PL) : Prop := L.ok ∧ w.heap[b]? = some (.cells L.cells 43)
theorem PIn.of {b : Nat} {L : PL} (hs : sat W (plist b L :: H) w) : PIn w b L := ⟨hs.and_pure.1, hs.and_pure.2.heap⟩

set_option maxHeartbeats 400000 in
theorem list_any (b : Nat) (L : PL) (w : World) (h : PIn w b L) :
    Calls Try.prog 21 #[.pointer (some ⟨b, 0, none⟩)] w fun e w' => e = .returned (.slice (some ⟨b, 0, none⟩) L.n L.n) ∧ ∃ n, w' = w.drewN n := by
  obtain ⟨hok, hb⟩ := h
  have cn : w.cell? ⟨b, 32, none⟩ = some (.int .i64 L.n) := by simp [World.cell?, hb, PL.cell_n hok]
  have hn : (L.n : Int) ≤ 32 := by have := hok.2.1; omega
  go_enter Try.func21, Try.ntmps21
  go_wp2
  go_quiet (fail)
  go_wp2
  go_ret
  exact ⟨rfl, _, rfl⟩

end Go.Proofs.Ytappjlebkjmooaa
