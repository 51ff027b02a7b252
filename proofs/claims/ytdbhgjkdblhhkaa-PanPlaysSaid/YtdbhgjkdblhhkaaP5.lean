import Derived.Test.YtdbhgjkdblhhkaaP4
namespace Go.Proofs.Ytdbhgjkdblhhkaa
open Go.RowKit Go.Mem
variable {W w : World} {H : List HProp}
def lastOf (cells : List Int) (wd : Nat) (hw : 0 < wd) (most : Int) : Nat := Pan.lastB most 0 (Pan.begs cells wd hw 0)
attribute [local irreducible] World.setCell World.setCells World.alloc World.drew World.drewN Calls sat cel own blk old wpQuiet wpList
variable {b wd off : Nat}
section
variable {cells : List Int} {Hc : List HProp} {a : Option Addr} {n c : Nat}
theorem last_t (hw : 0 < wd) (hw2 : wd ≤ 80) (hr : RdC Hc a n c cells) {most : Int} {o : Nat} (ho : lastOf cells wd hw most = o) (hs : sat W (cel b 36 (winL wd off) :: (Hc ++ H)) w) :
    Calls Try.prog 29 #[.pointer (some ⟨b, 0, none⟩), .slice a n c, .int .i64 most] w fun e w' => e = .returned (.int .i64 (o : Nat)) ∧ sat W (cel b 36 (winL wd off) :: (Hc ++ H)) w' := by
  subst ho
  exact last29 hw hw2 hr most hs
theorem hold16 (hw : 0 < wd) (hw2 : wd ≤ 80) (hr : RdC Hc a n c cells) {o : Nat} (ho : lastOf cells wd hw (off : Int) = o) (hs : sat W (cel b 36 (winL wd off) :: (Hc ++ H)) w) :
    Calls Try.prog 16 #[.pointer (some ⟨b, 0, none⟩), .slice a n c] w fun e w' => e = .returned (.tuple #[]) ∧ sat W (cel b 36 (winL wd o) :: (Hc ++ H)) w' := by
  have HO := Lib.hid ho
  have HR := Lib.hid hr
  clear ho hr
  go_enter Try.func16, Try.ntmps16
  go_wp2_with (first | (go_at_call 28; refine (ready28 hw hs).mono ?_; clear hs; rintro e w ⟨rfl, hs⟩) | (go_at_call 29; refine (last_t hw hw2 HR.out HO.out hs).mono ?_; clear hs; rintro e w ⟨rfl, hs⟩) | ((with_reducible refine isl ?_); first | ((with_reducible apply ld hs.b0); exact rfl; exact rfl; exact rfl; exact rfl; kernel_rfl) | ((with_reducible apply st hs.b0); exact rfl; exact rfl; exact rfl; exact rfl; exact rfl; exact rfl; kernel_rfl; exact rfl; clear hs; intro w hs) | ((with_reducible apply stc hs.b0); exact rfl; exact rfl; exact rfl; exact rfl; exact rfl; kernel_rfl; exact rfl; clear hs; intro w hs) | ((with_reducible refine wrap hs ?_); clear hs; intro w hs) | ((with_reducible refine wrapn hs ?_); clear hs; intro w hs) | ((with_reducible refine wrapd hs ?_); clear hs; intro w hs)))
  first | exact end_ret0 rfl rfl ⟨rfl, hs⟩ | exact end_end0 rfl rfl ⟨rfl, hs⟩
theorem left_no (hw : 0 < wd) (hw2 : wd ≤ 80) (hr : RdC Hc a n c cells) (ho : lastOf cells wd hw (off : Int) = 0) (hs : sat W (cel b 36 (winL wd off) :: (Hc ++ H)) w) :
    Calls Try.prog 13 #[.pointer (some ⟨b, 0, none⟩), .slice a n c] w fun e w' => e = .returned (.bool false) ∧ sat W (cel b 36 (winL wd 0) :: (Hc ++ H)) w' := by
  have HO := Lib.hid ho
  have HR := Lib.hid hr
  clear ho hr
  go_enter Try.func13, Try.ntmps13
  go_wp2_with (first | (go_at_call 28; refine (ready28 hw hs).mono ?_; clear hs; rintro e w ⟨rfl, hs⟩) | (go_at_call 16; refine (hold16 hw hw2 HR.out HO.out hs).mono ?_; clear hs; rintro e w ⟨rfl, hs⟩) | ((with_reducible refine isl ?_); first | ((with_reducible apply ld hs.b0); exact rfl; exact rfl; exact rfl; exact rfl; kernel_rfl) | ((with_reducible apply st hs.b0); exact rfl; exact rfl; exact rfl; exact rfl; exact rfl; exact rfl; kernel_rfl; exact rfl; clear hs; intro w hs) | ((with_reducible apply stc hs.b0); exact rfl; exact rfl; exact rfl; exact rfl; exact rfl; kernel_rfl; exact rfl; clear hs; intro w hs) | ((with_reducible refine wrap hs ?_); clear hs; intro w hs) | ((with_reducible refine wrapn hs ?_); clear hs; intro w hs) | ((with_reducible refine wrapd hs ?_); clear hs; intro w hs)))
  go_ret
  exact ⟨rfl, hs⟩
theorem left_yes (hw : 0 < wd) (hw2 : wd ≤ 80) (hr : RdC Hc a n c cells) {o o2 : Nat} (h0 : 0 < o) (hob : o ≤ 1000000) (ho : lastOf cells wd hw (off : Int) = o) (ho2 : lastOf cells wd hw ((o : Int) - 1) = o2) (hs : sat W (cel b 36 (winL wd off) :: (Hc ++ H)) w) :
    Calls Try.prog 13 #[.pointer (some ⟨b, 0, none⟩), .slice a n c] w fun e w' => e = .returned (.bool true) ∧ sat W (cel b 36 (winL wd o2) :: (Hc ++ H)) w' := by
  have HO := Lib.hid ho
  have HO2 := Lib.hid ho2
  have HR := Lib.hid hr
  have b0 : ((o : Int) == 0) = false := beq_no (by omega)
  clear ho hr ho2
  go_enter Try.func13, Try.ntmps13
  go_wp2_with (first | (go_at_call 28; refine (ready28 hw hs).mono ?_; clear hs; rintro e w ⟨rfl, hs⟩) | (go_at_call 16; refine (hold16 hw hw2 HR.out HO.out hs).mono ?_; clear hs; rintro e w ⟨rfl, hs⟩) | (go_at_call 29; refine (last_t hw hw2 HR.out HO2.out hs).mono ?_; clear hs; rintro e w ⟨rfl, hs⟩) | ((with_reducible refine isl ?_); first | ((with_reducible apply ld hs.b0); exact rfl; exact rfl; exact rfl; exact rfl; kernel_rfl) | ((with_reducible apply st hs.b0); exact rfl; exact rfl; exact rfl; exact rfl; exact rfl; exact rfl; kernel_rfl; exact rfl; clear hs; intro w hs) | ((with_reducible apply stc hs.b0); exact rfl; exact rfl; exact rfl; exact rfl; exact rfl; kernel_rfl; exact rfl; clear hs; intro w hs) | ((with_reducible refine wrap hs ?_); clear hs; intro w hs) | ((with_reducible refine wrapn hs ?_); clear hs; intro w hs) | ((with_reducible refine wrapd hs ?_); clear hs; intro w hs)))
  go_ret
  exact ⟨rfl, hs⟩
theorem to_no (hw : 0 < wd) {i : Int} (hi : i < 0 ∨ (n : Int) ≤ i) (hs : sat W (cel b 36 (winL wd off) :: H) w) :
    Calls Try.prog 14 #[.pointer (some ⟨b, 0, none⟩), .slice a n c, .int .i64 i] w fun e w' => e = .returned (.bool false) ∧ sat W (cel b 36 (winL wd off) :: H) w' := by
  by_cases h1 : i < 0
  · clear hi
    go_enter Try.func14, Try.ntmps14
    go_wp2_with (first | (go_at_call 28; refine (ready28 hw hs).mono ?_; clear hs; rintro e w ⟨rfl, hs⟩) | ((with_reducible refine isl ?_); first | ((with_reducible apply ld hs.b0); exact rfl; exact rfl; exact rfl; exact rfl; kernel_rfl) | ((with_reducible apply st hs.b0); exact rfl; exact rfl; exact rfl; exact rfl; exact rfl; exact rfl; kernel_rfl; exact rfl; clear hs; intro w hs) | ((with_reducible apply stc hs.b0); exact rfl; exact rfl; exact rfl; exact rfl; exact rfl; kernel_rfl; exact rfl; clear hs; intro w hs) | ((with_reducible refine wrap hs ?_); clear hs; intro w hs) | ((with_reducible refine wrapn hs ?_); clear hs; intro w hs) | ((with_reducible refine wrapd hs ?_); clear hs; intro w hs)))
    go_ret
    exact ⟨rfl, hs⟩
  · have h2 : (n : Int) ≤ i := by omega
    clear hi
    go_enter Try.func14, Try.ntmps14
    go_wp2_with (first | (go_at_call 28; refine (ready28 hw hs).mono ?_; clear hs; rintro e w ⟨rfl, hs⟩) | ((with_reducible refine isl ?_); first | ((with_reducible apply ld hs.b0); exact rfl; exact rfl; exact rfl; exact rfl; kernel_rfl) | ((with_reducible apply st hs.b0); exact rfl; exact rfl; exact rfl; exact rfl; exact rfl; exact rfl; kernel_rfl; exact rfl; clear hs; intro w hs) | ((with_reducible apply stc hs.b0); exact rfl; exact rfl; exact rfl; exact rfl; exact rfl; kernel_rfl; exact rfl; clear hs; intro w hs) | ((with_reducible refine wrap hs ?_); clear hs; intro w hs) | ((with_reducible refine wrapn hs ?_); clear hs; intro w hs) | ((with_reducible refine wrapd hs ?_); clear hs; intro w hs)))
    go_ret
    exact ⟨rfl, hs⟩
theorem to_yes (hw : 0 < wd) (hw2 : wd ≤ 80) (hr : RdC Hc a n c cells) {i : Int} (h0 : 0 ≤ i) (h1 : i < (n : Int)) {o : Nat} (ho : lastOf cells wd hw i = o) (hs : sat W (cel b 36 (winL wd off) :: (Hc ++ H)) w) :
    Calls Try.prog 14 #[.pointer (some ⟨b, 0, none⟩), .slice a n c, .int .i64 i] w fun e w' => e = .returned (.bool true) ∧ sat W (cel b 36 (winL wd o) :: (Hc ++ H)) w' := by
  have HO := Lib.hid ho
  have HR := Lib.hid hr
  clear ho hr
  go_enter Try.func14, Try.ntmps14
  go_wp2_with (first | (go_at_call 28; refine (ready28 hw hs).mono ?_; clear hs; rintro e w ⟨rfl, hs⟩) | (go_at_call 29; refine (last_t hw hw2 HR.out HO.out hs).mono ?_; clear hs; rintro e w ⟨rfl, hs⟩) | ((with_reducible refine isl ?_); first | ((with_reducible apply ld hs.b0); exact rfl; exact rfl; exact rfl; exact rfl; kernel_rfl) | ((with_reducible apply st hs.b0); exact rfl; exact rfl; exact rfl; exact rfl; exact rfl; exact rfl; kernel_rfl; exact rfl; clear hs; intro w hs) | ((with_reducible apply stc hs.b0); exact rfl; exact rfl; exact rfl; exact rfl; exact rfl; kernel_rfl; exact rfl; clear hs; intro w hs) | ((with_reducible refine wrap hs ?_); clear hs; intro w hs) | ((with_reducible refine wrapn hs ?_); clear hs; intro w hs) | ((with_reducible refine wrapd hs ?_); clear hs; intro w hs)))
  go_ret
  exact ⟨rfl, hs⟩
/-! what is no window -/
theorem no17 {p : Value} (hn : NoWin W H p) (hs : sat W H w) : Calls Try.prog 17 #[p] w fun e w' => e = .returned (.int .i64 0) ∧ sat W H w' := by
  go_enter Try.func17, Try.ntmps17
  go_wp2_with (first | (go_at_call 28; refine (hn _ hs).mono ?_; clear hs; rintro e w ⟨rfl, hs⟩) | ((with_reducible refine isl ?_); first | ((with_reducible refine wrap hs ?_); clear hs; intro w hs) | ((with_reducible refine wrapn hs ?_); clear hs; intro w hs) | ((with_reducible refine wrapd hs ?_); clear hs; intro w hs)))
  go_ret
  exact ⟨rfl, hs⟩
theorem no11 {p : Value} (hn : NoWin W H p) (hs : sat W H w) : Calls Try.prog 11 #[p] w fun e w' => e = .returned (.int .i64 0) ∧ sat W H w' := by
  go_enter Try.func11, Try.ntmps11
  go_wp2_with (first | (go_at_call 28; refine (hn _ hs).mono ?_; clear hs; rintro e w ⟨rfl, hs⟩) | ((with_reducible refine isl ?_); first | ((with_reducible refine wrap hs ?_); clear hs; intro w hs) | ((with_reducible refine wrapn hs ?_); clear hs; intro w hs) | ((with_reducible refine wrapd hs ?_); clear hs; intro w hs)))
  go_ret
  exact ⟨rfl, hs⟩
theorem no16 {p v : Value} (hn : NoWin W H p) (hs : sat W H w) : Calls Try.prog 16 #[p, v] w fun e w' => e = .returned (.tuple #[]) ∧ sat W H w' := by
  go_enter Try.func16, Try.ntmps16
  go_wp2_with (first | (go_at_call 28; refine (hn _ hs).mono ?_; clear hs; rintro e w ⟨rfl, hs⟩) | ((with_reducible refine isl ?_); first | ((with_reducible refine wrap hs ?_); clear hs; intro w hs) | ((with_reducible refine wrapn hs ?_); clear hs; intro w hs) | ((with_reducible refine wrapd hs ?_); clear hs; intro w hs)))
  first | exact end_ret0 rfl rfl ⟨rfl, hs⟩ | exact end_end0 rfl rfl ⟨rfl, hs⟩
theorem no13 {p v : Value} (hn : NoWin W H p) (hs : sat W H w) : Calls Try.prog 13 #[p, v] w fun e w' => e = .returned (.bool false) ∧ sat W H w' := by
  go_enter Try.func13, Try.ntmps13
  go_wp2_with (first | (go_at_call 28; refine (hn _ hs).mono ?_; clear hs; rintro e w ⟨rfl, hs⟩) | ((with_reducible refine isl ?_); first | ((with_reducible refine wrap hs ?_); clear hs; intro w hs) | ((with_reducible refine wrapn hs ?_); clear hs; intro w hs) | ((with_reducible refine wrapd hs ?_); clear hs; intro w hs)))
  go_ret
  exact ⟨rfl, hs⟩
theorem no14 {p v u : Value} (hn : NoWin W H p) (hs : sat W H w) : Calls Try.prog 14 #[p, v, u] w fun e w' => e = .returned (.bool false) ∧ sat W H w' := by
  go_enter Try.func14, Try.ntmps14
  go_wp2_with (first | (go_at_call 28; refine (hn _ hs).mono ?_; clear hs; rintro e w ⟨rfl, hs⟩) | ((with_reducible refine isl ?_); first | ((with_reducible refine wrap hs ?_); clear hs; intro w hs) | ((with_reducible refine wrapn hs ?_); clear hs; intro w hs) | ((with_reducible refine wrapd hs ?_); clear hs; intro w hs)))
  go_ret
  exact ⟨rfl, hs⟩
theorem no15 {p v : Value} (hn : NoWin W H p) (hs : sat W H w) : Calls Try.prog 15 #[p, v] w fun e w' => e = .returned (.slice none 0 0) ∧ sat W H w' := by
  go_enter Try.func15, Try.ntmps15
  go_wp2_with (first | (go_at_call 28; refine (hn _ hs).mono ?_; clear hs; rintro e w ⟨rfl, hs⟩) | ((with_reducible refine isl ?_); first | ((with_reducible refine wrap hs ?_); clear hs; intro w hs) | ((with_reducible refine wrapn hs ?_); clear hs; intro w hs) | ((with_reducible refine wrapd hs ?_); clear hs; intro w hs)))
  go_ret
  exact ⟨rfl, hs⟩
theorem no12 {p : Option Addr} {v : Value} (hn : ∀ H', NoWin W (H' ++ H) (.pointer p)) (hs : sat W H w) : Calls Try.prog 12 #[.pointer p, v] w fun e w' => e = .returned (.bool false) ∧ sat W H w' := by
  go_enter Try.func12, Try.ntmps12
  go_wp2_with (first | (go_at_call 28; refine (hn [_, _] _ hs).mono ?_; clear hs; rintro e w ⟨rfl, hs⟩) | ((with_reducible refine isl ?_); first | ((with_reducible apply ld hs.b0); exact rfl; exact rfl; exact rfl; exact rfl; kernel_rfl) | ((with_reducible apply ld hs.b1); exact rfl; exact rfl; exact rfl; exact rfl; kernel_rfl) | ((with_reducible apply st hs.b0); exact rfl; exact rfl; exact rfl; exact rfl; exact rfl; exact rfl; kernel_rfl; exact rfl; clear hs; intro w hs) | ((with_reducible apply st hs.b1); exact rfl; exact rfl; exact rfl; exact rfl; exact rfl; exact rfl; kernel_rfl; exact rfl; clear hs; intro w hs) | ((with_reducible apply stc hs.b0); exact rfl; exact rfl; exact rfl; exact rfl; exact rfl; kernel_rfl; exact rfl; clear hs; intro w hs) | ((with_reducible apply stc hs.b1); exact rfl; exact rfl; exact rfl; exact rfl; exact rfl; kernel_rfl; exact rfl; clear hs; intro w hs) | ((with_reducible refine wrap hs ?_); clear hs; (first | (have _t := z1; clear _t; generalize w.heap.size = z2) | generalize w.heap.size = z1); intro w hs) | ((with_reducible refine wrap hs ?_); clear hs; intro w hs) | ((with_reducible refine wrapn hs ?_); clear hs; intro w hs) | ((with_reducible refine wrapd hs ?_); clear hs; intro w hs)))
  exact ret_cell1 hs rfl rfl rfl (by kernel_rfl) ⟨rfl, hs.drop.drop⟩
end
end Go.Proofs.Ytdbhgjkdblhhkaa
