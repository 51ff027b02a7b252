/- Law 18: which utterance may be. -/
import Derived.Test.YtinfgebdcjaabaaQ2
namespace Go.Proofs.Ytinfgebdcjaabaa
open Go.RowKit Go.Mem Go.Queue
variable {W w : World} {H : List HProp}
attribute [local irreducible] World.setCell World.setCells World.alloc World.drew World.drewN Calls sat cel own blk old wpQuiet wpList qu
theorem may26_n0a (u : Ut) (h1 : u.num ≠ 0) (hp : u.pr = 1) (hs : sat W H w) : Calls Try.prog 26 #[utV u] w fun e w' => e = .returned (.bool false) ∧ sat W H w' := by
  have g1 : (u.num == 0) = false := by simpa using h1
  have p1 : (u.pr == 1) = true := by simpa using hp
  go_enter Try.func26, Try.ntmps26
  go_wp2_with (first | ((with_reducible refine isl ?_); first | ((with_reducible apply ld hs.b0); exact rfl; exact rfl; exact rfl; exact rfl; kernel_rfl) | ((with_reducible apply st hs.b0); exact rfl; exact rfl; exact rfl; exact rfl; exact rfl; exact rfl; kernel_rfl; exact rfl; clear hs; intro w hs) | ((with_reducible apply stc hs.b0); exact rfl; exact rfl; exact rfl; exact rfl; exact rfl; kernel_rfl; exact rfl; clear hs; intro w hs) | ((with_reducible refine wrap hs ?_); clear hs; intro w hs) | ((with_reducible refine wrapn hs ?_); clear hs; intro w hs) | ((with_reducible refine wrapd hs ?_); clear hs; intro w hs)))
  go_ret
  exact ⟨rfl, hs.drop⟩
theorem may26_n0b (u : Ut) (h1 : u.num ≠ 0) (hp : u.pr ≠ 1) (hs : sat W H w) : Calls Try.prog 26 #[utV u] w fun e w' => e = .returned (.bool false) ∧ sat W H w' := by
  have g1 : (u.num == 0) = false := by simpa using h1
  have p1 : (u.pr == 1) = false := by simpa using hp
  go_enter Try.func26, Try.ntmps26
  go_wp2_with (first | ((with_reducible refine isl ?_); first | ((with_reducible apply ld hs.b0); exact rfl; exact rfl; exact rfl; exact rfl; kernel_rfl) | ((with_reducible apply st hs.b0); exact rfl; exact rfl; exact rfl; exact rfl; exact rfl; exact rfl; kernel_rfl; exact rfl; clear hs; intro w hs) | ((with_reducible apply stc hs.b0); exact rfl; exact rfl; exact rfl; exact rfl; exact rfl; kernel_rfl; exact rfl; clear hs; intro w hs) | ((with_reducible refine wrap hs ?_); clear hs; intro w hs) | ((with_reducible refine wrapn hs ?_); clear hs; intro w hs) | ((with_reducible refine wrapd hs ?_); clear hs; intro w hs)))
  go_ret
  exact ⟨rfl, hs.drop⟩
theorem may26_n1a (u : Ut) (h1 : u.num = 0) (h2 : u.text.size < 1) (hp : u.pr = 1) (hs : sat W H w) : Calls Try.prog 26 #[utV u] w fun e w' => e = .returned (.bool false) ∧ sat W H w' := by
  have g1 : (u.num == 0) = true := by simpa using h1
  have g2 : decide ((1 : Int) ≤ (u.text.size : Int)) = false := decide_eq_false (by omega)
  have g2' : decide (1 ≤ u.text.size) = false := decide_eq_false (by omega)
  have g2b : ¬ (1 : Int) ≤ (u.text.size : Int) := by omega
  have p1 : (u.pr == 1) = true := by simpa using hp
  go_enter Try.func26, Try.ntmps26
  go_wp2_with (first | ((with_reducible refine isl ?_); first | ((with_reducible apply ld hs.b0); exact rfl; exact rfl; exact rfl; exact rfl; kernel_rfl) | ((with_reducible apply st hs.b0); exact rfl; exact rfl; exact rfl; exact rfl; exact rfl; exact rfl; kernel_rfl; exact rfl; clear hs; intro w hs) | ((with_reducible apply stc hs.b0); exact rfl; exact rfl; exact rfl; exact rfl; exact rfl; kernel_rfl; exact rfl; clear hs; intro w hs) | ((with_reducible refine wrap hs ?_); clear hs; intro w hs) | ((with_reducible refine wrapn hs ?_); clear hs; intro w hs) | ((with_reducible refine wrapd hs ?_); clear hs; intro w hs)))
  go_ret
  exact ⟨rfl, hs.drop⟩
theorem may26_n1b (u : Ut) (h1 : u.num = 0) (h2 : u.text.size < 1) (hp : u.pr ≠ 1) (hs : sat W H w) : Calls Try.prog 26 #[utV u] w fun e w' => e = .returned (.bool false) ∧ sat W H w' := by
  have g1 : (u.num == 0) = true := by simpa using h1
  have g2 : decide ((1 : Int) ≤ (u.text.size : Int)) = false := decide_eq_false (by omega)
  have g2' : decide (1 ≤ u.text.size) = false := decide_eq_false (by omega)
  have g2b : ¬ (1 : Int) ≤ (u.text.size : Int) := by omega
  have p1 : (u.pr == 1) = false := by simpa using hp
  go_enter Try.func26, Try.ntmps26
  go_wp2_with (first | ((with_reducible refine isl ?_); first | ((with_reducible apply ld hs.b0); exact rfl; exact rfl; exact rfl; exact rfl; kernel_rfl) | ((with_reducible apply st hs.b0); exact rfl; exact rfl; exact rfl; exact rfl; exact rfl; exact rfl; kernel_rfl; exact rfl; clear hs; intro w hs) | ((with_reducible apply stc hs.b0); exact rfl; exact rfl; exact rfl; exact rfl; exact rfl; kernel_rfl; exact rfl; clear hs; intro w hs) | ((with_reducible refine wrap hs ?_); clear hs; intro w hs) | ((with_reducible refine wrapn hs ?_); clear hs; intro w hs) | ((with_reducible refine wrapd hs ?_); clear hs; intro w hs)))
  go_ret
  exact ⟨rfl, hs.drop⟩
theorem may26_n2a (u : Ut) (h1 : u.num = 0) (h2 : 1 ≤ u.text.size) (h3 : 4096 < u.text.size) (hp : u.pr = 1) (hs : sat W H w) : Calls Try.prog 26 #[utV u] w fun e w' => e = .returned (.bool false) ∧ sat W H w' := by
  have g1 : (u.num == 0) = true := by simpa using h1
  have g2 : decide ((1 : Int) ≤ (u.text.size : Int)) = true := decide_eq_true (by omega)
  have g2' : decide (1 ≤ u.text.size) = true := decide_eq_true (by omega)
  have g3 : decide ((u.text.size : Int) ≤ 4096) = false := decide_eq_false (by omega)
  have g3' : decide (u.text.size ≤ 4096) = false := decide_eq_false (by omega)
  have p1 : (u.pr == 1) = true := by simpa using hp
  go_enter Try.func26, Try.ntmps26
  go_wp2_with (first | ((with_reducible refine isl ?_); first | ((with_reducible apply ld hs.b0); exact rfl; exact rfl; exact rfl; exact rfl; kernel_rfl) | ((with_reducible apply st hs.b0); exact rfl; exact rfl; exact rfl; exact rfl; exact rfl; exact rfl; kernel_rfl; exact rfl; clear hs; intro w hs) | ((with_reducible apply stc hs.b0); exact rfl; exact rfl; exact rfl; exact rfl; exact rfl; kernel_rfl; exact rfl; clear hs; intro w hs) | ((with_reducible refine wrap hs ?_); clear hs; intro w hs) | ((with_reducible refine wrapn hs ?_); clear hs; intro w hs) | ((with_reducible refine wrapd hs ?_); clear hs; intro w hs)))
  go_ret
  exact ⟨rfl, hs.drop⟩
theorem may26_n2b (u : Ut) (h1 : u.num = 0) (h2 : 1 ≤ u.text.size) (h3 : 4096 < u.text.size) (hp : u.pr ≠ 1) (hs : sat W H w) : Calls Try.prog 26 #[utV u] w fun e w' => e = .returned (.bool false) ∧ sat W H w' := by
  have g1 : (u.num == 0) = true := by simpa using h1
  have g2 : decide ((1 : Int) ≤ (u.text.size : Int)) = true := decide_eq_true (by omega)
  have g2' : decide (1 ≤ u.text.size) = true := decide_eq_true (by omega)
  have g3 : decide ((u.text.size : Int) ≤ 4096) = false := decide_eq_false (by omega)
  have g3' : decide (u.text.size ≤ 4096) = false := decide_eq_false (by omega)
  have p1 : (u.pr == 1) = false := by simpa using hp
  go_enter Try.func26, Try.ntmps26
  go_wp2_with (first | ((with_reducible refine isl ?_); first | ((with_reducible apply ld hs.b0); exact rfl; exact rfl; exact rfl; exact rfl; kernel_rfl) | ((with_reducible apply st hs.b0); exact rfl; exact rfl; exact rfl; exact rfl; exact rfl; exact rfl; kernel_rfl; exact rfl; clear hs; intro w hs) | ((with_reducible apply stc hs.b0); exact rfl; exact rfl; exact rfl; exact rfl; exact rfl; kernel_rfl; exact rfl; clear hs; intro w hs) | ((with_reducible refine wrap hs ?_); clear hs; intro w hs) | ((with_reducible refine wrapn hs ?_); clear hs; intro w hs) | ((with_reducible refine wrapd hs ?_); clear hs; intro w hs)))
  go_ret
  exact ⟨rfl, hs.drop⟩
theorem may26_1y (u : Ut) (h1 : u.num = 0) (h2 : 1 ≤ u.text.size) (h3 : u.text.size ≤ 4096) (hp : u.pr = 1) (h4 : u.fr < u.to_) (hs : sat W H w) : Calls Try.prog 26 #[utV u] w fun e w' => e = .returned (.bool true) ∧ sat W H w' := by
  have g1 : (u.num == 0) = true := by simpa using h1
  have g2 : decide ((1 : Int) ≤ (u.text.size : Int)) = true := decide_eq_true (by omega)
  have g2' : decide (1 ≤ u.text.size) = true := decide_eq_true (by omega)
  have g3 : decide ((u.text.size : Int) ≤ 4096) = true := decide_eq_true (by omega)
  have g3' : decide (u.text.size ≤ 4096) = true := decide_eq_true (by omega)
  have p1 : (u.pr == 1) = true := by simpa using hp
  have g4 : decide (u.fr < u.to_) = true := by simpa using h4
  go_enter Try.func26, Try.ntmps26
  go_wp2_with (first | ((with_reducible refine isl ?_); first | ((with_reducible apply ld hs.b0); exact rfl; exact rfl; exact rfl; exact rfl; kernel_rfl) | ((with_reducible apply st hs.b0); exact rfl; exact rfl; exact rfl; exact rfl; exact rfl; exact rfl; kernel_rfl; exact rfl; clear hs; intro w hs) | ((with_reducible apply stc hs.b0); exact rfl; exact rfl; exact rfl; exact rfl; exact rfl; kernel_rfl; exact rfl; clear hs; intro w hs) | ((with_reducible refine wrap hs ?_); clear hs; intro w hs) | ((with_reducible refine wrapn hs ?_); clear hs; intro w hs) | ((with_reducible refine wrapd hs ?_); clear hs; intro w hs)))
  go_ret
  exact ⟨rfl, hs.drop⟩
theorem may26_1n (u : Ut) (h1 : u.num = 0) (h2 : 1 ≤ u.text.size) (h3 : u.text.size ≤ 4096) (hp : u.pr = 1) (h4 : ¬ u.fr < u.to_) (hs : sat W H w) : Calls Try.prog 26 #[utV u] w fun e w' => e = .returned (.bool false) ∧ sat W H w' := by
  have g1 : (u.num == 0) = true := by simpa using h1
  have g2 : decide ((1 : Int) ≤ (u.text.size : Int)) = true := decide_eq_true (by omega)
  have g2' : decide (1 ≤ u.text.size) = true := decide_eq_true (by omega)
  have g3 : decide ((u.text.size : Int) ≤ 4096) = true := decide_eq_true (by omega)
  have g3' : decide (u.text.size ≤ 4096) = true := decide_eq_true (by omega)
  have p1 : (u.pr == 1) = true := by simpa using hp
  have g4 : decide (u.fr < u.to_) = false := by simpa using h4
  go_enter Try.func26, Try.ntmps26
  go_wp2_with (first | ((with_reducible refine isl ?_); first | ((with_reducible apply ld hs.b0); exact rfl; exact rfl; exact rfl; exact rfl; kernel_rfl) | ((with_reducible apply st hs.b0); exact rfl; exact rfl; exact rfl; exact rfl; exact rfl; exact rfl; kernel_rfl; exact rfl; clear hs; intro w hs) | ((with_reducible apply stc hs.b0); exact rfl; exact rfl; exact rfl; exact rfl; exact rfl; kernel_rfl; exact rfl; clear hs; intro w hs) | ((with_reducible refine wrap hs ?_); clear hs; intro w hs) | ((with_reducible refine wrapn hs ?_); clear hs; intro w hs) | ((with_reducible refine wrapd hs ?_); clear hs; intro w hs)))
  go_ret
  exact ⟨rfl, hs.drop⟩
theorem may26_0a (u : Ut) (h1 : u.num = 0) (h2 : 1 ≤ u.text.size) (h3 : u.text.size ≤ 4096) (hp : u.pr ≠ 1) (h4 : ¬ u.pr ≤ 2) (hs : sat W H w) : Calls Try.prog 26 #[utV u] w fun e w' => e = .returned (.bool false) ∧ sat W H w' := by
  have g1 : (u.num == 0) = true := by simpa using h1
  have g2 : decide ((1 : Int) ≤ (u.text.size : Int)) = true := decide_eq_true (by omega)
  have g2' : decide (1 ≤ u.text.size) = true := decide_eq_true (by omega)
  have g3 : decide ((u.text.size : Int) ≤ 4096) = true := decide_eq_true (by omega)
  have g3' : decide (u.text.size ≤ 4096) = true := decide_eq_true (by omega)
  have p1 : (u.pr == 1) = false := by simpa using hp
  have g4 : decide (u.pr ≤ 2) = false := by simpa using h4
  go_enter Try.func26, Try.ntmps26
  go_wp2_with (first | ((with_reducible refine isl ?_); first | ((with_reducible apply ld hs.b0); exact rfl; exact rfl; exact rfl; exact rfl; kernel_rfl) | ((with_reducible apply st hs.b0); exact rfl; exact rfl; exact rfl; exact rfl; exact rfl; exact rfl; kernel_rfl; exact rfl; clear hs; intro w hs) | ((with_reducible apply stc hs.b0); exact rfl; exact rfl; exact rfl; exact rfl; exact rfl; kernel_rfl; exact rfl; clear hs; intro w hs) | ((with_reducible refine wrap hs ?_); clear hs; intro w hs) | ((with_reducible refine wrapn hs ?_); clear hs; intro w hs) | ((with_reducible refine wrapd hs ?_); clear hs; intro w hs)))
  go_ret
  exact ⟨rfl, hs.drop⟩
theorem may26_0b (u : Ut) (h1 : u.num = 0) (h2 : 1 ≤ u.text.size) (h3 : u.text.size ≤ 4096) (hp : u.pr ≠ 1) (h4 : u.pr ≤ 2) (h5 : u.fr ≠ 0) (hs : sat W H w) : Calls Try.prog 26 #[utV u] w fun e w' => e = .returned (.bool false) ∧ sat W H w' := by
  have g1 : (u.num == 0) = true := by simpa using h1
  have g2 : decide ((1 : Int) ≤ (u.text.size : Int)) = true := decide_eq_true (by omega)
  have g2' : decide (1 ≤ u.text.size) = true := decide_eq_true (by omega)
  have g3 : decide ((u.text.size : Int) ≤ 4096) = true := decide_eq_true (by omega)
  have g3' : decide (u.text.size ≤ 4096) = true := decide_eq_true (by omega)
  have p1 : (u.pr == 1) = false := by simpa using hp
  have g4 : decide (u.pr ≤ 2) = true := by simpa using h4
  have g5 : (u.fr == 0) = false := by simpa using h5
  go_enter Try.func26, Try.ntmps26
  go_wp2_with (first | ((with_reducible refine isl ?_); first | ((with_reducible apply ld hs.b0); exact rfl; exact rfl; exact rfl; exact rfl; kernel_rfl) | ((with_reducible apply st hs.b0); exact rfl; exact rfl; exact rfl; exact rfl; exact rfl; exact rfl; kernel_rfl; exact rfl; clear hs; intro w hs) | ((with_reducible apply stc hs.b0); exact rfl; exact rfl; exact rfl; exact rfl; exact rfl; kernel_rfl; exact rfl; clear hs; intro w hs) | ((with_reducible refine wrap hs ?_); clear hs; intro w hs) | ((with_reducible refine wrapn hs ?_); clear hs; intro w hs) | ((with_reducible refine wrapd hs ?_); clear hs; intro w hs)))
  go_ret
  exact ⟨rfl, hs.drop⟩
theorem may26_0c (u : Ut) (h1 : u.num = 0) (h2 : 1 ≤ u.text.size) (h3 : u.text.size ≤ 4096) (hp : u.pr ≠ 1) (h4 : u.pr ≤ 2) (h5 : u.fr = 0) (h6 : u.to_ ≠ 0) (hs : sat W H w) : Calls Try.prog 26 #[utV u] w fun e w' => e = .returned (.bool false) ∧ sat W H w' := by
  have g1 : (u.num == 0) = true := by simpa using h1
  have g2 : decide ((1 : Int) ≤ (u.text.size : Int)) = true := decide_eq_true (by omega)
  have g2' : decide (1 ≤ u.text.size) = true := decide_eq_true (by omega)
  have g3 : decide ((u.text.size : Int) ≤ 4096) = true := decide_eq_true (by omega)
  have g3' : decide (u.text.size ≤ 4096) = true := decide_eq_true (by omega)
  have p1 : (u.pr == 1) = false := by simpa using hp
  have g4 : decide (u.pr ≤ 2) = true := by simpa using h4
  have g5 : (u.fr == 0) = true := by simpa using h5
  have g6 : (u.to_ == 0) = false := by simpa using h6
  go_enter Try.func26, Try.ntmps26
  go_wp2_with (first | ((with_reducible refine isl ?_); first | ((with_reducible apply ld hs.b0); exact rfl; exact rfl; exact rfl; exact rfl; kernel_rfl) | ((with_reducible apply st hs.b0); exact rfl; exact rfl; exact rfl; exact rfl; exact rfl; exact rfl; kernel_rfl; exact rfl; clear hs; intro w hs) | ((with_reducible apply stc hs.b0); exact rfl; exact rfl; exact rfl; exact rfl; exact rfl; kernel_rfl; exact rfl; clear hs; intro w hs) | ((with_reducible refine wrap hs ?_); clear hs; intro w hs) | ((with_reducible refine wrapn hs ?_); clear hs; intro w hs) | ((with_reducible refine wrapd hs ?_); clear hs; intro w hs)))
  go_ret
  exact ⟨rfl, hs.drop⟩
theorem may26_0y (u : Ut) (h1 : u.num = 0) (h2 : 1 ≤ u.text.size) (h3 : u.text.size ≤ 4096) (hp : u.pr ≠ 1) (h4 : u.pr ≤ 2) (h5 : u.fr = 0) (h6 : u.to_ = 0) (hs : sat W H w) : Calls Try.prog 26 #[utV u] w fun e w' => e = .returned (.bool true) ∧ sat W H w' := by
  have g1 : (u.num == 0) = true := by simpa using h1
  have g2 : decide ((1 : Int) ≤ (u.text.size : Int)) = true := decide_eq_true (by omega)
  have g2' : decide (1 ≤ u.text.size) = true := decide_eq_true (by omega)
  have g3 : decide ((u.text.size : Int) ≤ 4096) = true := decide_eq_true (by omega)
  have g3' : decide (u.text.size ≤ 4096) = true := decide_eq_true (by omega)
  have p1 : (u.pr == 1) = false := by simpa using hp
  have g4 : decide (u.pr ≤ 2) = true := by simpa using h4
  have g5 : (u.fr == 0) = true := by simpa using h5
  have g6 : (u.to_ == 0) = true := by simpa using h6
  go_enter Try.func26, Try.ntmps26
  go_wp2_with (first | ((with_reducible refine isl ?_); first | ((with_reducible apply ld hs.b0); exact rfl; exact rfl; exact rfl; exact rfl; kernel_rfl) | ((with_reducible apply st hs.b0); exact rfl; exact rfl; exact rfl; exact rfl; exact rfl; exact rfl; kernel_rfl; exact rfl; clear hs; intro w hs) | ((with_reducible apply stc hs.b0); exact rfl; exact rfl; exact rfl; exact rfl; exact rfl; kernel_rfl; exact rfl; clear hs; intro w hs) | ((with_reducible refine wrap hs ?_); clear hs; intro w hs) | ((with_reducible refine wrapn hs ?_); clear hs; intro w hs) | ((with_reducible refine wrapd hs ?_); clear hs; intro w hs)))
  go_ret
  exact ⟨rfl, hs.drop⟩
theorem may26 (u : Ut) (hs : sat W H w) : Calls Try.prog 26 #[utV u] w fun e w' => e = .returned (.bool (may u)) ∧ sat W H w' := by
  by_cases h1 : u.num = 0
  · by_cases h2 : 1 ≤ u.text.size
    · by_cases h3 : u.text.size ≤ 4096
      · by_cases hp : u.pr = 1
        · by_cases h4 : u.fr < u.to_
          · rw [show may u = true by simp [may, h1, h2, h3, hp, h4]]; exact may26_1y u h1 h2 h3 hp h4 hs
          · rw [show may u = false by simp [may, hp, h4]]; exact may26_1n u h1 h2 h3 hp h4 hs
        · by_cases h4 : u.pr ≤ 2
          · by_cases h5 : u.fr = 0
            · by_cases h6 : u.to_ = 0
              · rw [show may u = true by simp [may, h1, h2, h3, hp, h4, h5, h6]]; exact may26_0y u h1 h2 h3 hp h4 h5 h6 hs
              · rw [show may u = false by simp [may, hp, h6]]; exact may26_0c u h1 h2 h3 hp h4 h5 h6 hs
            · rw [show may u = false by simp [may, hp, h5]]; exact may26_0b u h1 h2 h3 hp h4 h5 hs
          · rw [show may u = false by simp [may, hp, h4]]; exact may26_0a u h1 h2 h3 hp h4 hs
      · rw [show may u = false by simp [may, h3]]
        by_cases hp : u.pr = 1
        · exact may26_n2a u h1 h2 (by omega) hp hs
        · exact may26_n2b u h1 h2 (by omega) hp hs
    · rw [show may u = false by unfold may; rw [decide_eq_false h2]; simp]
      by_cases hp : u.pr = 1
      · exact may26_n1a u h1 (by omega) hp hs
      · exact may26_n1b u h1 (by omega) hp hs
  · rw [show may u = false by simp [may, h1]]
    by_cases hp : u.pr = 1
    · exact may26_n0a u h1 hp hs
    · exact may26_n0b u h1 hp hs
end Go.Proofs.Ytinfgebdcjaabaa
