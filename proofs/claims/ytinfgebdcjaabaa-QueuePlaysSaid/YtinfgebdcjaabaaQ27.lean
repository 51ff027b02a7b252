/- Law 18: the document's queue in memory; its small functions. -/
import Derived.Test.YtinfgebdcjaabaaQ19a
import Derived.Test.YtinfgebdcjaabaaQ26
namespace Go.Proofs.Ytinfgebdcjaabaa
open Go.RowKit Go.Mem Go.Queue
variable {W w : World} {H : List HProp}
theorem row53 : rowTy Try.prog 53 11 = true := by kernel_rfl
theorem one4 : oneTy Try.prog 4 = true := by kernel_rfl
abbrev rqL (q : Qu) (aW : Option Addr) (cW : Nat) (y : Ut) (on : Bool) (wd : Int) : List Value := [.int .i64 (q.size : Int), .slice aW q.waits.length cW, .int .i64 y.num, .string y.text, .int .u64 y.fr, .int .u64 y.to_, .int .u8 y.pr, .bool on, .int .i64 wd, .int .u64 q.last, .int .i64 q.count]
def RelS (q : Qu) (y : Ut) (on : Bool) (wd : Int) : Prop := (q.spoken = [] ∧ on = false) ∨ (q.spoken = [y] ∧ on = true ∧ wd = q.words)
/-- The document's queue stands in block b, with its row. -/
def rq (b : Nat) (q : Qu) : HProp := fun h => ∃ aW cW y on wd, RelS q y on wd ∧ star (cel b 53 (rqL q aW cW y on wd)) (utO aW cW q.waits) h
theorem _root_.Go.Mem.sat.rq_open {b : Nat} {q : Qu} (hs : sat W (rq b q :: H) w) : ∃ aW cW y on wd, RelS q y on wd ∧ sat W (cel b 53 (rqL q aW cW y on wd) :: utO aW cW q.waits :: H) w := by
  unfold rq at hs
  obtain ⟨aW, hs⟩ := hs.ex
  obtain ⟨cW, hs⟩ := hs.ex
  obtain ⟨y, hs⟩ := hs.ex
  obtain ⟨on, hs⟩ := hs.ex
  obtain ⟨wd, hs⟩ := hs.ex
  obtain ⟨h1, hs⟩ := hs.and_pure
  exact ⟨aW, cW, y, on, wd, h1, hs.unstar⟩
theorem _root_.Go.Mem.sat.rq_close {b : Nat} {q : Qu} {aW : Option Addr} {cW : Nat} {y : Ut} {on : Bool} {wd : Int} (h : RelS q y on wd) (hs : sat W (cel b 53 (rqL q aW cW y on wd) :: utO aW cW q.waits :: H) w) : sat W (rq b q :: H) w :=
  hs.star.imp fun _ hh => ⟨aW, cW, y, on, wd, h, hh⟩
theorem wc_yes {s : ByteArray} {j : Nat} (h1 : bt s j ≠ 32) (h2 : wst s j = true) : wc s (j + 1) = wc s j + 1 := by
  show wc s j + (if bt s j ≠ 32 ∧ wst s j = true then 1 else 0) = _
  rw [if_pos ⟨h1, h2⟩]
theorem wc_no {s : ByteArray} {j : Nat} (h : ¬ (bt s j ≠ 32 ∧ wst s j = true)) : wc s (j + 1) = wc s j := by
  show wc s j + (if bt s j ≠ 32 ∧ wst s j = true then 1 else 0) = _
  rw [if_neg h]; rfl
theorem bt_get {s : ByteArray} {j : Nat} (h : j < s.size) : bt s j = (s[j]'h).toNat := by
  obtain ⟨d⟩ := s
  show (d[j]!).toNat = (d[j]'h).toNat
  rw [getElem!_pos d j h]
theorem wc_0 (s : ByteArray) : wc s 0 = 0 := rfl
theorem wst_0 (s : ByteArray) : wst s 0 = true := rfl
theorem wst_s (s : ByteArray) (j : Nat) : wst s (j + 1) = decide (bt s j = 32) := rfl
attribute [local irreducible] World.setCell World.setCells World.alloc World.drew World.drewN Calls sat cel own blk old wpQuiet wpList qu uts gn World.rangeAt tru leastUpto bestUpto si Utf8.decode wc wst wordsOf may PutPost put accept mark rq but
variable {b : Nat} {q : Qu}
theorem may36_a (u : Ut) (h0 : u.num ≠ 0) (hs : sat W H w) : Calls Try.prog 36 #[utV u] w fun e w' => e = .returned (.bool false) ∧ sat W H w' := by
  have g0 : (u.num != 0) = true := by simp; omega
  have g1 : (u.num == 0) = false := by simp; omega
  go_enter Try.func36, Try.ntmps36
  go_wp2_with (first | ((with_reducible refine isl ?_); first | ((with_reducible apply ld hs.b0); exact rfl; exact rfl; exact rfl; exact rfl; kernel_rfl) | ((with_reducible apply st hs.b0); exact rfl; exact rfl; exact rfl; exact rfl; exact rfl; exact rfl; kernel_rfl; exact rfl; clear hs; intro w hs) | ((with_reducible apply stc hs.b0); exact rfl; exact rfl; exact rfl; exact rfl; exact rfl; kernel_rfl; exact rfl; clear hs; intro w hs) | ((with_reducible refine wrap hs ?_); clear hs; intro w hs) | ((with_reducible refine wrapn hs ?_); clear hs; intro w hs) | ((with_reducible refine wrapd hs ?_); clear hs; intro w hs)))
  go_ret
  exact ⟨rfl, hs.drop⟩
theorem may36_b (u : Ut) (h0 : u.num = 0) (h1 : u.text.size = 0) (hs : sat W H w) : Calls Try.prog 36 #[utV u] w fun e w' => e = .returned (.bool false) ∧ sat W H w' := by
  have g0 : (u.num != 0) = false := by simp; omega
  have g1 : (u.num == 0) = true := by simp; omega
  have g2 : ((u.text.size : Int) == 0) = true := by rw [beq_iff_eq]; omega
  go_enter Try.func36, Try.ntmps36
  go_wp2_with (first | ((with_reducible refine isl ?_); first | ((with_reducible apply ld hs.b0); exact rfl; exact rfl; exact rfl; exact rfl; kernel_rfl) | ((with_reducible apply st hs.b0); exact rfl; exact rfl; exact rfl; exact rfl; exact rfl; exact rfl; kernel_rfl; exact rfl; clear hs; intro w hs) | ((with_reducible apply stc hs.b0); exact rfl; exact rfl; exact rfl; exact rfl; exact rfl; kernel_rfl; exact rfl; clear hs; intro w hs) | ((with_reducible refine wrap hs ?_); clear hs; intro w hs) | ((with_reducible refine wrapn hs ?_); clear hs; intro w hs) | ((with_reducible refine wrapd hs ?_); clear hs; intro w hs)))
  go_ret
  exact ⟨rfl, hs.drop⟩
theorem may36_c (u : Ut) (h0 : u.num = 0) (h1 : 1 ≤ u.text.size) (h2 : 4096 < u.text.size) (hs : sat W H w) : Calls Try.prog 36 #[utV u] w fun e w' => e = .returned (.bool false) ∧ sat W H w' := by
  have g0 : (u.num != 0) = false := by simp; omega
  have g1 : (u.num == 0) = true := by simp; omega
  have g2 : ((u.text.size : Int) == 0) = false := by exact beq_no (by omega)
  have g3 : decide ((4096 : Int) < (u.text.size : Int)) = true := by simp; omega
  go_enter Try.func36, Try.ntmps36
  go_wp2_with (first | ((with_reducible refine isl ?_); first | ((with_reducible apply ld hs.b0); exact rfl; exact rfl; exact rfl; exact rfl; kernel_rfl) | ((with_reducible apply st hs.b0); exact rfl; exact rfl; exact rfl; exact rfl; exact rfl; exact rfl; kernel_rfl; exact rfl; clear hs; intro w hs) | ((with_reducible apply stc hs.b0); exact rfl; exact rfl; exact rfl; exact rfl; exact rfl; kernel_rfl; exact rfl; clear hs; intro w hs) | ((with_reducible refine wrap hs ?_); clear hs; intro w hs) | ((with_reducible refine wrapn hs ?_); clear hs; intro w hs) | ((with_reducible refine wrapd hs ?_); clear hs; intro w hs)))
  go_ret
  exact ⟨rfl, hs.drop⟩
theorem may36_d0x (u : Ut) (h0 : u.num = 0) (h1 : 1 ≤ u.text.size) (h2 : u.text.size ≤ 4096) (h3 : u.pr = 0) (h4 : u.fr ≠ 0) (hs : sat W H w) : Calls Try.prog 36 #[utV u] w fun e w' => e = .returned (.bool false) ∧ sat W H w' := by
  have g0 : (u.num != 0) = false := by simp; omega
  have g1 : (u.num == 0) = true := by simp; omega
  have g2 : ((u.text.size : Int) == 0) = false := by exact beq_no (by omega)
  have g3 : decide ((4096 : Int) < (u.text.size : Int)) = false := by simp; omega
  have g4 : (u.pr == 0) = true := by simp; omega
  have g5 : u.pr = 0 := by omega
  have g6 : (u.fr == 0) = false := by simp; omega
  go_enter Try.func36, Try.ntmps36
  go_wp2_with (first | ((with_reducible refine isl ?_); first | ((with_reducible apply ld hs.b0); exact rfl; exact rfl; exact rfl; exact rfl; kernel_rfl) | ((with_reducible apply st hs.b0); exact rfl; exact rfl; exact rfl; exact rfl; exact rfl; exact rfl; kernel_rfl; exact rfl; clear hs; intro w hs) | ((with_reducible apply stc hs.b0); exact rfl; exact rfl; exact rfl; exact rfl; exact rfl; kernel_rfl; exact rfl; clear hs; intro w hs) | ((with_reducible refine wrap hs ?_); clear hs; intro w hs) | ((with_reducible refine wrapn hs ?_); clear hs; intro w hs) | ((with_reducible refine wrapd hs ?_); clear hs; intro w hs)))
  go_ret
  exact ⟨rfl, hs.drop⟩
theorem may36_d0y (u : Ut) (h0 : u.num = 0) (h1 : 1 ≤ u.text.size) (h2 : u.text.size ≤ 4096) (h3 : u.pr = 0) (h4 : u.fr = 0) (h5 : u.to_ ≠ 0) (hs : sat W H w) : Calls Try.prog 36 #[utV u] w fun e w' => e = .returned (.bool false) ∧ sat W H w' := by
  have g0 : (u.num != 0) = false := by simp; omega
  have g1 : (u.num == 0) = true := by simp; omega
  have g2 : ((u.text.size : Int) == 0) = false := by exact beq_no (by omega)
  have g3 : decide ((4096 : Int) < (u.text.size : Int)) = false := by simp; omega
  have g4 : (u.pr == 0) = true := by simp; omega
  have g5 : u.pr = 0 := by omega
  have g6 : (u.fr == 0) = true := by simp; omega
  have g7 : (u.to_ == 0) = false := by simp; omega
  go_enter Try.func36, Try.ntmps36
  go_wp2_with (first | ((with_reducible refine isl ?_); first | ((with_reducible apply ld hs.b0); exact rfl; exact rfl; exact rfl; exact rfl; kernel_rfl) | ((with_reducible apply st hs.b0); exact rfl; exact rfl; exact rfl; exact rfl; exact rfl; exact rfl; kernel_rfl; exact rfl; clear hs; intro w hs) | ((with_reducible apply stc hs.b0); exact rfl; exact rfl; exact rfl; exact rfl; exact rfl; kernel_rfl; exact rfl; clear hs; intro w hs) | ((with_reducible refine wrap hs ?_); clear hs; intro w hs) | ((with_reducible refine wrapn hs ?_); clear hs; intro w hs) | ((with_reducible refine wrapd hs ?_); clear hs; intro w hs)))
  go_ret
  exact ⟨rfl, hs.drop⟩
theorem may36_d0z (u : Ut) (h0 : u.num = 0) (h1 : 1 ≤ u.text.size) (h2 : u.text.size ≤ 4096) (h3 : u.pr = 0) (h4 : u.fr = 0) (h5 : u.to_ = 0) (hs : sat W H w) : Calls Try.prog 36 #[utV u] w fun e w' => e = .returned (.bool true) ∧ sat W H w' := by
  have g0 : (u.num != 0) = false := by simp; omega
  have g1 : (u.num == 0) = true := by simp; omega
  have g2 : ((u.text.size : Int) == 0) = false := by exact beq_no (by omega)
  have g3 : decide ((4096 : Int) < (u.text.size : Int)) = false := by simp; omega
  have g4 : (u.pr == 0) = true := by simp; omega
  have g5 : u.pr = 0 := by omega
  have g6 : (u.fr == 0) = true := by simp; omega
  have g7 : (u.to_ == 0) = true := by simp; omega
  go_enter Try.func36, Try.ntmps36
  go_wp2_with (first | ((with_reducible refine isl ?_); first | ((with_reducible apply ld hs.b0); exact rfl; exact rfl; exact rfl; exact rfl; kernel_rfl) | ((with_reducible apply st hs.b0); exact rfl; exact rfl; exact rfl; exact rfl; exact rfl; exact rfl; kernel_rfl; exact rfl; clear hs; intro w hs) | ((with_reducible apply stc hs.b0); exact rfl; exact rfl; exact rfl; exact rfl; exact rfl; kernel_rfl; exact rfl; clear hs; intro w hs) | ((with_reducible refine wrap hs ?_); clear hs; intro w hs) | ((with_reducible refine wrapn hs ?_); clear hs; intro w hs) | ((with_reducible refine wrapd hs ?_); clear hs; intro w hs)))
  go_ret
  exact ⟨rfl, hs.drop⟩
theorem may36_d2x (u : Ut) (h0 : u.num = 0) (h1 : 1 ≤ u.text.size) (h2 : u.text.size ≤ 4096) (h3 : u.pr = 2) (h4 : u.fr ≠ 0) (hs : sat W H w) : Calls Try.prog 36 #[utV u] w fun e w' => e = .returned (.bool false) ∧ sat W H w' := by
  have g0 : (u.num != 0) = false := by simp; omega
  have g1 : (u.num == 0) = true := by simp; omega
  have g2 : ((u.text.size : Int) == 0) = false := by exact beq_no (by omega)
  have g3 : decide ((4096 : Int) < (u.text.size : Int)) = false := by simp; omega
  have g4 : (u.pr == 0) = false := by simp; omega
  have g5 : ¬ u.pr = 0 := by omega
  have g6 : (u.pr == 2) = true := by simp; omega
  have g7 : u.pr = 2 := by omega
  have g8 : (u.fr == 0) = false := by simp; omega
  go_enter Try.func36, Try.ntmps36
  go_wp2_with (first | ((with_reducible refine isl ?_); first | ((with_reducible apply ld hs.b0); exact rfl; exact rfl; exact rfl; exact rfl; kernel_rfl) | ((with_reducible apply st hs.b0); exact rfl; exact rfl; exact rfl; exact rfl; exact rfl; exact rfl; kernel_rfl; exact rfl; clear hs; intro w hs) | ((with_reducible apply stc hs.b0); exact rfl; exact rfl; exact rfl; exact rfl; exact rfl; kernel_rfl; exact rfl; clear hs; intro w hs) | ((with_reducible refine wrap hs ?_); clear hs; intro w hs) | ((with_reducible refine wrapn hs ?_); clear hs; intro w hs) | ((with_reducible refine wrapd hs ?_); clear hs; intro w hs)))
  go_ret
  exact ⟨rfl, hs.drop⟩
theorem may36_d2y (u : Ut) (h0 : u.num = 0) (h1 : 1 ≤ u.text.size) (h2 : u.text.size ≤ 4096) (h3 : u.pr = 2) (h4 : u.fr = 0) (h5 : u.to_ ≠ 0) (hs : sat W H w) : Calls Try.prog 36 #[utV u] w fun e w' => e = .returned (.bool false) ∧ sat W H w' := by
  have g0 : (u.num != 0) = false := by simp; omega
  have g1 : (u.num == 0) = true := by simp; omega
  have g2 : ((u.text.size : Int) == 0) = false := by exact beq_no (by omega)
  have g3 : decide ((4096 : Int) < (u.text.size : Int)) = false := by simp; omega
  have g4 : (u.pr == 0) = false := by simp; omega
  have g5 : ¬ u.pr = 0 := by omega
  have g6 : (u.pr == 2) = true := by simp; omega
  have g7 : u.pr = 2 := by omega
  have g8 : (u.fr == 0) = true := by simp; omega
  have g9 : (u.to_ == 0) = false := by simp; omega
  go_enter Try.func36, Try.ntmps36
  go_wp2_with (first | ((with_reducible refine isl ?_); first | ((with_reducible apply ld hs.b0); exact rfl; exact rfl; exact rfl; exact rfl; kernel_rfl) | ((with_reducible apply st hs.b0); exact rfl; exact rfl; exact rfl; exact rfl; exact rfl; exact rfl; kernel_rfl; exact rfl; clear hs; intro w hs) | ((with_reducible apply stc hs.b0); exact rfl; exact rfl; exact rfl; exact rfl; exact rfl; kernel_rfl; exact rfl; clear hs; intro w hs) | ((with_reducible refine wrap hs ?_); clear hs; intro w hs) | ((with_reducible refine wrapn hs ?_); clear hs; intro w hs) | ((with_reducible refine wrapd hs ?_); clear hs; intro w hs)))
  go_ret
  exact ⟨rfl, hs.drop⟩
theorem may36_d2z (u : Ut) (h0 : u.num = 0) (h1 : 1 ≤ u.text.size) (h2 : u.text.size ≤ 4096) (h3 : u.pr = 2) (h4 : u.fr = 0) (h5 : u.to_ = 0) (hs : sat W H w) : Calls Try.prog 36 #[utV u] w fun e w' => e = .returned (.bool true) ∧ sat W H w' := by
  have g0 : (u.num != 0) = false := by simp; omega
  have g1 : (u.num == 0) = true := by simp; omega
  have g2 : ((u.text.size : Int) == 0) = false := by exact beq_no (by omega)
  have g3 : decide ((4096 : Int) < (u.text.size : Int)) = false := by simp; omega
  have g4 : (u.pr == 0) = false := by simp; omega
  have g5 : ¬ u.pr = 0 := by omega
  have g6 : (u.pr == 2) = true := by simp; omega
  have g7 : u.pr = 2 := by omega
  have g8 : (u.fr == 0) = true := by simp; omega
  have g9 : (u.to_ == 0) = true := by simp; omega
  go_enter Try.func36, Try.ntmps36
  go_wp2_with (first | ((with_reducible refine isl ?_); first | ((with_reducible apply ld hs.b0); exact rfl; exact rfl; exact rfl; exact rfl; kernel_rfl) | ((with_reducible apply st hs.b0); exact rfl; exact rfl; exact rfl; exact rfl; exact rfl; exact rfl; kernel_rfl; exact rfl; clear hs; intro w hs) | ((with_reducible apply stc hs.b0); exact rfl; exact rfl; exact rfl; exact rfl; exact rfl; kernel_rfl; exact rfl; clear hs; intro w hs) | ((with_reducible refine wrap hs ?_); clear hs; intro w hs) | ((with_reducible refine wrapn hs ?_); clear hs; intro w hs) | ((with_reducible refine wrapd hs ?_); clear hs; intro w hs)))
  go_ret
  exact ⟨rfl, hs.drop⟩
theorem may36_ex (u : Ut) (h0 : u.num = 0) (h1 : 1 ≤ u.text.size) (h2 : u.text.size ≤ 4096) (h3 : u.pr = 1) (h4 : u.fr < u.to_) (hs : sat W H w) : Calls Try.prog 36 #[utV u] w fun e w' => e = .returned (.bool true) ∧ sat W H w' := by
  have g0 : (u.num != 0) = false := by simp; omega
  have g1 : (u.num == 0) = true := by simp; omega
  have g2 : ((u.text.size : Int) == 0) = false := by exact beq_no (by omega)
  have g3 : decide ((4096 : Int) < (u.text.size : Int)) = false := by simp; omega
  have g4 : (u.pr == 0) = false := by simp; omega
  have g5 : ¬ u.pr = 0 := by omega
  have g6 : (u.pr == 2) = false := by simp; omega
  have g7 : ¬ u.pr = 2 := by omega
  have g8 : (u.pr == 1) = true := by simp; omega
  have g9 : u.pr = 1 := by omega
  have g10 : decide (u.fr < u.to_) = true := by simp; omega
  go_enter Try.func36, Try.ntmps36
  go_wp2_with (first | ((with_reducible refine isl ?_); first | ((with_reducible apply ld hs.b0); exact rfl; exact rfl; exact rfl; exact rfl; kernel_rfl) | ((with_reducible apply st hs.b0); exact rfl; exact rfl; exact rfl; exact rfl; exact rfl; exact rfl; kernel_rfl; exact rfl; clear hs; intro w hs) | ((with_reducible apply stc hs.b0); exact rfl; exact rfl; exact rfl; exact rfl; exact rfl; kernel_rfl; exact rfl; clear hs; intro w hs) | ((with_reducible refine wrap hs ?_); clear hs; intro w hs) | ((with_reducible refine wrapn hs ?_); clear hs; intro w hs) | ((with_reducible refine wrapd hs ?_); clear hs; intro w hs)))
  go_ret
  exact ⟨rfl, hs.drop⟩
theorem may36_ey (u : Ut) (h0 : u.num = 0) (h1 : 1 ≤ u.text.size) (h2 : u.text.size ≤ 4096) (h3 : u.pr = 1) (h4 : ¬ u.fr < u.to_) (hs : sat W H w) : Calls Try.prog 36 #[utV u] w fun e w' => e = .returned (.bool false) ∧ sat W H w' := by
  have g0 : (u.num != 0) = false := by simp; omega
  have g1 : (u.num == 0) = true := by simp; omega
  have g2 : ((u.text.size : Int) == 0) = false := by exact beq_no (by omega)
  have g3 : decide ((4096 : Int) < (u.text.size : Int)) = false := by simp; omega
  have g4 : (u.pr == 0) = false := by simp; omega
  have g5 : ¬ u.pr = 0 := by omega
  have g6 : (u.pr == 2) = false := by simp; omega
  have g7 : ¬ u.pr = 2 := by omega
  have g8 : (u.pr == 1) = true := by simp; omega
  have g9 : u.pr = 1 := by omega
  have g10 : decide (u.fr < u.to_) = false := by simp; omega
  go_enter Try.func36, Try.ntmps36
  go_wp2_with (first | ((with_reducible refine isl ?_); first | ((with_reducible apply ld hs.b0); exact rfl; exact rfl; exact rfl; exact rfl; kernel_rfl) | ((with_reducible apply st hs.b0); exact rfl; exact rfl; exact rfl; exact rfl; exact rfl; exact rfl; kernel_rfl; exact rfl; clear hs; intro w hs) | ((with_reducible apply stc hs.b0); exact rfl; exact rfl; exact rfl; exact rfl; exact rfl; kernel_rfl; exact rfl; clear hs; intro w hs) | ((with_reducible refine wrap hs ?_); clear hs; intro w hs) | ((with_reducible refine wrapn hs ?_); clear hs; intro w hs) | ((with_reducible refine wrapd hs ?_); clear hs; intro w hs)))
  go_ret
  exact ⟨rfl, hs.drop⟩
theorem may36_f (u : Ut) (h0 : u.num = 0) (h1 : 1 ≤ u.text.size) (h2 : u.text.size ≤ 4096) (h3 : u.pr ≠ 0) (h4 : u.pr ≠ 1) (h5 : u.pr ≠ 2) (hs : sat W H w) : Calls Try.prog 36 #[utV u] w fun e w' => e = .returned (.bool false) ∧ sat W H w' := by
  have g0 : (u.num != 0) = false := by simp; omega
  have g1 : (u.num == 0) = true := by simp; omega
  have g2 : ((u.text.size : Int) == 0) = false := by exact beq_no (by omega)
  have g3 : decide ((4096 : Int) < (u.text.size : Int)) = false := by simp; omega
  have g4 : (u.pr == 0) = false := by simp; omega
  have g5 : ¬ u.pr = 0 := by omega
  have g6 : (u.pr == 2) = false := by simp; omega
  have g7 : ¬ u.pr = 2 := by omega
  have g8 : (u.pr == 1) = false := by simp; omega
  have g9 : ¬ u.pr = 1 := by omega
  go_enter Try.func36, Try.ntmps36
  go_wp2_with (first | ((with_reducible refine isl ?_); first | ((with_reducible apply ld hs.b0); exact rfl; exact rfl; exact rfl; exact rfl; kernel_rfl) | ((with_reducible apply st hs.b0); exact rfl; exact rfl; exact rfl; exact rfl; exact rfl; exact rfl; kernel_rfl; exact rfl; clear hs; intro w hs) | ((with_reducible apply stc hs.b0); exact rfl; exact rfl; exact rfl; exact rfl; exact rfl; kernel_rfl; exact rfl; clear hs; intro w hs) | ((with_reducible refine wrap hs ?_); clear hs; intro w hs) | ((with_reducible refine wrapn hs ?_); clear hs; intro w hs) | ((with_reducible refine wrapd hs ?_); clear hs; intro w hs)))
  go_ret
  exact ⟨rfl, hs.drop⟩
theorem may36 (u : Ut) (hp0 : 0 ≤ u.pr) (hs : sat W H w) : Calls Try.prog 36 #[utV u] w fun e w' => e = .returned (.bool (may u)) ∧ sat W H w' := by
  by_cases h1 : u.num = 0
  · by_cases h2 : 1 ≤ u.text.size
    · by_cases h3 : u.text.size ≤ 4096
      · by_cases hp : u.pr = 1
        · by_cases h4 : u.fr < u.to_
          · rw [show may u = true by simp [may, h1, h2, h3, hp, h4]]; exact may36_ex u h1 h2 h3 hp h4 hs
          · rw [show may u = false by simp [may, hp, h4]]; exact may36_ey u h1 h2 h3 hp h4 hs
        · by_cases hq : u.pr = 0 ∨ u.pr = 2
          · have h4 : u.pr ≤ 2 := by omega
            by_cases h5 : u.fr = 0
            · by_cases h6 : u.to_ = 0
              · rw [show may u = true by simp [may, h1, h2, h3, hp, h4, h5, h6]]
                rcases hq with hq | hq
                · exact may36_d0z u h1 h2 h3 hq h5 h6 hs
                · exact may36_d2z u h1 h2 h3 hq h5 h6 hs
              · rw [show may u = false by simp [may, hp, h6]]
                rcases hq with hq | hq
                · exact may36_d0y u h1 h2 h3 hq h5 h6 hs
                · exact may36_d2y u h1 h2 h3 hq h5 h6 hs
            · rw [show may u = false by simp [may, hp, h5]]
              rcases hq with hq | hq
              · exact may36_d0x u h1 h2 h3 hq h5 hs
              · exact may36_d2x u h1 h2 h3 hq h5 hs
          · have h4 : ¬ u.pr ≤ 2 := by omega
            rw [show may u = false by simp [may, hp, h4]]; exact may36_f u h1 h2 h3 (by omega) hp (by omega) hs
      · rw [show may u = false by simp [may, h3]]; exact may36_c u h1 h2 (by omega) hs
    · rw [show may u = false by unfold may; rw [decide_eq_false h2]; simp]; exact may36_b u h1 (by omega) hs
  · rw [show may u = false by simp [may, h1]]; exact may36_a u h1 hs
set_option maxHeartbeats 1000000 in
theorem words38 (s : ByteArray) (hz : s.size ≤ 100000) (hs : sat W H w) : Calls Try.prog 38 #[.string s] w fun e w' => e = .returned (.int .i64 (wordsOf s : Int)) ∧ sat W H w' := by
  obtain ⟨n, hn⟩ : ∃ n, s.size = n := ⟨_, rfl⟩
  have HN := Lib.hid hn
  have hn1 : n ≤ 100000 := by omega
  go_enter Try.func38, Try.ntmps38
  go_wp2_with (first | ((with_reducible refine isl ?_); first | ((with_reducible apply ld hs.b0); exact rfl; exact rfl; exact rfl; exact rfl; kernel_rfl) | ((with_reducible apply st hs.b0); exact rfl; exact rfl; exact rfl; exact rfl; exact rfl; exact rfl; kernel_rfl; exact rfl; clear hs; intro w hs) | ((with_reducible apply stc hs.b0); exact rfl; exact rfl; exact rfl; exact rfl; exact rfl; kernel_rfl; exact rfl; clear hs; intro w hs) | ((with_reducible refine wrap hs ?_); clear hs; intro w hs) | ((with_reducible refine wrapn hs ?_); clear hs; intro w hs) | ((with_reducible refine wrapd hs ?_); clear hs; intro w hs)))
  go_loopw [3, 4] (fun v i wr => ∃ (j k : Nat), j ≤ n ∧ k ≤ j ∧ v = .int .i64 (k : Int) ∧ i = .int .i64 (j : Int) ∧ Hid (k = wc s j) ∧ sat W H wr) (fun _ i _ => ((n : Int) - intOf i).toNat)
  case atStart => exact ⟨0, 0, Nat.zero_le _, Nat.le_refl _, rfl, rfl, Lib.hid (wc_0 s).symm, hs⟩
  case round =>
    clear hs
    obtain ⟨j, k, hj, hk, rfl, rfl, HK, hs⟩ := hrel
    by_cases hjn : j < n
    · have hjs : j < s.size := by omega
      have hb := bt_get hjs
      by_cases c1 : bt s j = 32
      · have g1 : (((s[j]'hjs).toNat : Int) != 32) = false := by rw [← hb, c1]; rfl
        have g1' : ((s[j]'hjs).toNat : Int) = 32 := by rw [← hb, c1]; rfl
        have HC : Hid (wc s (j + 1) = wc s j) := Lib.hid (wc_no (fun h => h.1 c1))
        clear hb c1 hn
        go_wp2_with (first | ((with_reducible refine isl ?_); first | ((with_reducible apply ld hs.b0); exact rfl; exact rfl; exact rfl; exact rfl; kernel_rfl) | ((with_reducible apply st hs.b0); exact rfl; exact rfl; exact rfl; exact rfl; exact rfl; exact rfl; kernel_rfl; exact rfl; clear hs; intro w hs) | ((with_reducible apply stc hs.b0); exact rfl; exact rfl; exact rfl; exact rfl; exact rfl; kernel_rfl; exact rfl; clear hs; intro w hs) | ((with_reducible refine wrap hs ?_); clear hs; intro w hs) | ((with_reducible refine wrapn hs ?_); clear hs; intro w hs) | ((with_reducible refine wrapd hs ?_); clear hs; intro w hs)))
        go_roundw
        case rel => exact ⟨j + 1, k, by omega, by omega, rfl, by go_num, Lib.hid (by rw [HK.out, HC.out]), hs⟩
        case measure => simp [intOf]; omega
      · have g1 : (((s[j]'hjs).toNat : Int) != 32) = true := by rw [← hb]; simp; omega
        have g1' : ¬ ((s[j]'hjs).toNat : Int) = 32 := by rw [← hb]; omega
        cases j with
        | zero =>
          have HC : Hid (wc s (0 + 1) = wc s 0 + 1) := Lib.hid (wc_yes c1 (wst_0 s))
          clear hb c1 hn
          go_wp2_with (first | ((with_reducible refine isl ?_); first | ((with_reducible apply ld hs.b0); exact rfl; exact rfl; exact rfl; exact rfl; kernel_rfl) | ((with_reducible apply st hs.b0); exact rfl; exact rfl; exact rfl; exact rfl; exact rfl; exact rfl; kernel_rfl; exact rfl; clear hs; intro w hs) | ((with_reducible apply stc hs.b0); exact rfl; exact rfl; exact rfl; exact rfl; exact rfl; kernel_rfl; exact rfl; clear hs; intro w hs) | ((with_reducible refine wrap hs ?_); clear hs; intro w hs) | ((with_reducible refine wrapn hs ?_); clear hs; intro w hs) | ((with_reducible refine wrapd hs ?_); clear hs; intro w hs)))
          go_roundw
          case rel => exact ⟨0 + 1, k + 1, by omega, by omega, by go_num, by go_num, Lib.hid (by rw [HK.out, HC.out]), hs⟩
          case measure => simp [intOf]; omega
        | succ i =>
          have his : i < s.size := by omega
          have hb2 := bt_get his
          by_cases c2 : bt s i = 32
          · have g2 : (((s[i]'his).toNat : Int) == 32) = true := by rw [← hb2, c2]; rfl
            have g2' : ((s[i]'his).toNat : Int) = 32 := by rw [← hb2, c2]; rfl
            have HC : Hid (wc s (i + 1 + 1) = wc s (i + 1) + 1) := Lib.hid (wc_yes c1 (by rw [wst_s]; exact decide_eq_true c2))
            clear hb hb2 c1 c2 hn
            go_wp2_with (first | ((with_reducible refine isl ?_); first | ((with_reducible apply ld hs.b0); exact rfl; exact rfl; exact rfl; exact rfl; kernel_rfl) | ((with_reducible apply st hs.b0); exact rfl; exact rfl; exact rfl; exact rfl; exact rfl; exact rfl; kernel_rfl; exact rfl; clear hs; intro w hs) | ((with_reducible apply stc hs.b0); exact rfl; exact rfl; exact rfl; exact rfl; exact rfl; kernel_rfl; exact rfl; clear hs; intro w hs) | ((with_reducible refine wrap hs ?_); clear hs; intro w hs) | ((with_reducible refine wrapn hs ?_); clear hs; intro w hs) | ((with_reducible refine wrapd hs ?_); clear hs; intro w hs)))
            go_roundw
            case rel => exact ⟨i + 1 + 1, k + 1, by omega, by omega, by go_num, by go_num, Lib.hid (by rw [HK.out, HC.out]), hs⟩
            case measure => simp [intOf]; omega
          · have g2 : (((s[i]'his).toNat : Int) == 32) = false := by rw [← hb2]; exact beq_no (by omega)
            have g2' : ¬ ((s[i]'his).toNat : Int) = 32 := by rw [← hb2]; omega
            have HC : Hid (wc s (i + 1 + 1) = wc s (i + 1)) := Lib.hid (wc_no (fun h => by have := h.2; rw [wst_s] at this; exact c2 (of_decide_eq_true this)))
            clear hb hb2 c1 c2 hn
            go_wp2_with (first | ((with_reducible refine isl ?_); first | ((with_reducible apply ld hs.b0); exact rfl; exact rfl; exact rfl; exact rfl; kernel_rfl) | ((with_reducible apply st hs.b0); exact rfl; exact rfl; exact rfl; exact rfl; exact rfl; exact rfl; kernel_rfl; exact rfl; clear hs; intro w hs) | ((with_reducible apply stc hs.b0); exact rfl; exact rfl; exact rfl; exact rfl; exact rfl; kernel_rfl; exact rfl; clear hs; intro w hs) | ((with_reducible refine wrap hs ?_); clear hs; intro w hs) | ((with_reducible refine wrapn hs ?_); clear hs; intro w hs) | ((with_reducible refine wrapd hs ?_); clear hs; intro w hs)))
            go_roundw
            case rel => exact ⟨i + 1 + 1, k, by omega, by omega, rfl, by go_num, Lib.hid (by rw [HK.out, HC.out]), hs⟩
            case measure => simp [intOf]; omega
    · have hjn : j = n := by omega
      obtain rfl : n = j := hjn.symm
      go_wp2_with (first | ((with_reducible refine isl ?_); first | ((with_reducible apply ld hs.b0); exact rfl; exact rfl; exact rfl; exact rfl; kernel_rfl) | ((with_reducible apply st hs.b0); exact rfl; exact rfl; exact rfl; exact rfl; exact rfl; exact rfl; kernel_rfl; exact rfl; clear hs; intro w hs) | ((with_reducible apply stc hs.b0); exact rfl; exact rfl; exact rfl; exact rfl; exact rfl; kernel_rfl; exact rfl; clear hs; intro w hs) | ((with_reducible refine wrap hs ?_); clear hs; intro w hs) | ((with_reducible refine wrapn hs ?_); clear hs; intro w hs) | ((with_reducible refine wrapd hs ?_); clear hs; intro w hs)))
      go_ret
      refine ⟨?_, hs⟩
      rw [HK.out, ← HN.out]
      unfold wordsOf
      rfl
end Go.Proofs.Ytinfgebdcjaabaa
