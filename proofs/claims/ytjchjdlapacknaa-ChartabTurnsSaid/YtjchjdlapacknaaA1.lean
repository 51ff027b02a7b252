import Derived.Test.YtjchjdlapacknaaRows
import Derived.Test.YtjchjdlapacknaaSm
import Derived.Outline
namespace Go.Proofs.Ytjchjdlapacknaa
open Go.RowKit Go.Mem
variable {W w : World} {H : List HProp}
attribute [local irreducible] World.setCell World.alloc World.drew World.drewN Calls sat cel own blk old mp wpQuiet

theorem in32_true (r a b : Int) (w : World) (h : a ≤ r ∧ r ≤ b) : Calls Try.prog 32 #[.int .i32 r, .int .i32 a, .int .i32 b] w fun e w' => e = .returned (.bool true) ∧ w' = w := by
  have e1 : decide (a ≤ r) = true := by simpa using h.1
  have e2 : decide (r ≤ b) = true := by simpa using h.2
  clear h
  go_enter Try.func32, Try.ntmps32
  go_wp2
  go_ret
  exact ⟨rfl, rfl⟩
theorem in32_false (r a b : Int) (w : World) (h : ¬(a ≤ r ∧ r ≤ b)) : Calls Try.prog 32 #[.int .i32 r, .int .i32 a, .int .i32 b] w fun e w' => e = .returned (.bool false) ∧ w' = w := by
  by_cases h1 : a ≤ r
  · have e1 : decide (a ≤ r) = true := by simpa using h1
    have e2 : decide (r ≤ b) = false := by simp; omega
    clear h
    go_enter Try.func32, Try.ntmps32
    go_wp2
    go_ret
    exact ⟨rfl, rfl⟩
  · have e1 : decide (a ≤ r) = false := by simpa using h1
    clear h
    go_enter Try.func32, Try.ntmps32
    go_wp2
    go_ret
    exact ⟨rfl, rfl⟩
theorem in34_true (r a b : Int) (w : World) (h : a ≤ r ∧ r ≤ b) : Calls Try.prog 34 #[.int .i32 r, .int .i32 a, .int .i32 b] w fun e w' => e = .returned (.bool true) ∧ w' = w := by
  have e1 : decide (a ≤ r) = true := by simpa using h.1
  have e2 : decide (r ≤ b) = true := by simpa using h.2
  clear h
  go_enter Try.func34, Try.ntmps34
  go_wp2
  go_ret
  exact ⟨rfl, rfl⟩
theorem in34_false (r a b : Int) (w : World) (h : ¬(a ≤ r ∧ r ≤ b)) : Calls Try.prog 34 #[.int .i32 r, .int .i32 a, .int .i32 b] w fun e w' => e = .returned (.bool false) ∧ w' = w := by
  by_cases h1 : a ≤ r
  · have e1 : decide (a ≤ r) = true := by simpa using h1
    have e2 : decide (r ≤ b) = false := by simp; omega
    clear h
    go_enter Try.func34, Try.ntmps34
    go_wp2
    go_ret
    exact ⟨rfl, rfl⟩
  · have e1 : decide (a ≤ r) = false := by simpa using h1
    clear h
    go_enter Try.func34, Try.ntmps34
    go_wp2
    go_ret
    exact ⟨rfl, rfl⟩

/-- It may be a rune. -/
def may (r : Int) : Prop := (0 ≤ r ∧ r < 55296) ∨ (57343 < r ∧ r ≤ 1114111)
instance (r : Int) : Decidable (may r) := inferInstanceAs (Decidable (_ ∨ _))
theorem may11 (r : Int) (w : World) : Calls Try.prog 11 #[.int .i32 r] w fun e w' => e = .returned (.bool (decide (may r))) ∧ w' = w := by
  by_cases h1 : r < 0
  · have e1 : decide (0 ≤ r) = false := by simp; omega
    have e2 : decide (57343 < r) = false := by simp; omega
    have HG := Lib.hid (show decide (may r) = false from decide_eq_false (by unfold may; omega))
    clear h1
    go_enter Try.func11, Try.ntmps11
    go_wp2
    go_ret
    exact ⟨ret_bool HG.out, rfl⟩
  · have e1 : decide (0 ≤ r) = true := by simp; omega
    by_cases h2 : r < 55296
    · have e2 : decide (r < 55296) = true := by simpa using h2
      have HG := Lib.hid (show decide (may r) = true from decide_eq_true (by unfold may; omega))
      clear h1 h2
      go_enter Try.func11, Try.ntmps11
      go_wp2
      go_ret
      exact ⟨ret_bool HG.out, rfl⟩
    · have e2 : decide (r < 55296) = false := by simpa using h2
      by_cases h3 : 57343 < r
      · have e3 : decide (57343 < r) = true := by simpa using h3
        have HG := Lib.hid (show decide (may r) = decide (r ≤ 1114111) by rw [decide_eq_decide]; unfold may; omega)
        clear h1 h2 h3
        go_enter Try.func11, Try.ntmps11
        go_wp2
        go_ret
        exact ⟨ret_bool HG.out, rfl⟩
      · have e3 : decide (57343 < r) = false := by simpa using h3
        have HG := Lib.hid (show decide (may r) = false from decide_eq_false (by unfold may; omega))
        clear h1 h2 h3
        go_enter Try.func11, Try.ntmps11
        go_wp2
        go_ret
        exact ⟨ret_bool HG.out, rfl⟩
theorem may12 (r : Int) (w : World) : Calls Try.prog 12 #[.int .i32 r] w fun e w' => e = .returned (.bool (decide (may r))) ∧ w' = w := by
  by_cases h1 : r < 0
  · have e1 : decide (0 ≤ r) = false := by simp; omega
    have HG := Lib.hid (show decide (may r) = false from decide_eq_false (by unfold may; omega))
    clear h1
    go_enter Try.func12, Try.ntmps12
    go_wp2
    go_ret
    exact ⟨ret_bool HG.out, rfl⟩
  · have e1 : decide (0 ≤ r) = true := by simp; omega
    by_cases h2 : r ≤ 1114111
    · have e2 : decide (r ≤ 1114111) = true := by simpa using h2
      by_cases h3 : 55296 ≤ r
      · have e3 : decide (55296 ≤ r) = true := by simpa using h3
        have HG := Lib.hid (show decide (may r) = !decide (r ≤ 57343) by rw [← decide_not, decide_eq_decide]; unfold may; omega)
        clear h1 h2 h3
        go_enter Try.func12, Try.ntmps12
        go_wp2
        go_ret
        exact ⟨ret_bool HG.out, rfl⟩
      · have e3 : decide (55296 ≤ r) = false := by simpa using h3
        have HG := Lib.hid (show decide (may r) = true from decide_eq_true (by unfold may; omega))
        clear h1 h2 h3
        go_enter Try.func12, Try.ntmps12
        go_wp2
        go_ret
        exact ⟨ret_bool HG.out, rfl⟩
    · have e2 : decide (r ≤ 1114111) = false := by simpa using h2
      have HG := Lib.hid (show decide (may r) = false from decide_eq_false (by unfold may; omega))
      clear h1 h2
      go_enter Try.func12, Try.ntmps12
      go_wp2
      go_ret
      exact ⟨ret_bool HG.out, rfl⟩

end Go.Proofs.Ytjchjdlapacknaa
