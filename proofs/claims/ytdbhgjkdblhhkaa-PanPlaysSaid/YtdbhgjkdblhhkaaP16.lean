import Derived.Test.YtdbhgjkdblhhkaaP15
namespace Go.Proofs.Ytdbhgjkdblhhkaa
open Go.RowKit Go.Mem
variable {W w : World} {H : List HProp}
section
variable {cells : List Int} {Hc : List HProp} {a : Option Addr} {n c wd off b : Nat}
attribute [local irreducible] World.setCell World.setCells World.alloc World.drew World.drewN Calls sat cel own blk old wpQuiet wpList
theorem rbegins_t (hw : 0 < wd) (hw2 : wd ≤ 80) {xs : List Nat} (hr : RdC Hc a n c cells) (hg : n ≤ 1000) (hb : Pan.begs cells wd hw 0 = xs) (hs : sat W (Hc ++ H) w) :
    Calls Try.prog 19 #[.slice a n c, .int .i64 (wd : Nat)] w fun e w' => ∃ a' c', e = .returned (.slice a' xs.length c') ∧ sat W (own 3 1 (.slice a' xs.length c') xs.length (natsV xs) :: (Hc ++ H)) w' := by
  subst hb
  exact rbegins19 hw hw2 hr hg hs
set_option maxHeartbeats 1000000 in
theorem rlast31 (hw : 0 < wd) (hw2 : wd ≤ 80) (hr : RdC Hc a n c cells) (hg : n ≤ 1000) (most : Int) {o : Nat} (ho : lastOf cells wd hw most = o) (hs : sat W (cel b 44 (winL wd off) :: (Hc ++ H)) w) :
    Calls Try.prog 31 #[.pointer (some ⟨b, 0, none⟩), .slice a n c, .int .i64 most] w fun e w' => e = .returned (.int .i64 (o : Nat)) ∧ sat W (cel b 44 (winL wd off) :: (Hc ++ H)) w' := by
  have hcl : cells.length ≤ 1000 := by have := (hr.len hs.drop.only).1; omega
  have hbl := begs_le (cells := cells) (wd := wd) (hw := hw) hcl
  have hpw := rise cells wd hw
  have ho2 : Pan.lastAll most 0 (Pan.begs cells wd hw 0) = o := by rw [Pan.lastAll_eq _ _ hpw]; exact ho
  obtain ⟨xs, hx⟩ : ∃ xs, Pan.begs cells wd hw 0 = xs := ⟨_, rfl⟩
  rw [hx] at ho2 hbl
  obtain ⟨m, hm⟩ : ∃ m, xs.length = m := ⟨_, rfl⟩
  rw [hm] at hbl
  have HR := Lib.hid hr
  have HX := Lib.hid hx
  have HM := Lib.hid hm
  have HO := Lib.hid ho2
  clear hr hx hm ho2 hpw ho
  go_enter Try.func31, Try.ntmps31
  go_wp2_with (first | (go_at_call 19; refine (rbegins_t (Hc := _ :: Hc) (H := H) hw hw2 HR.out.more hg HX.out hs).mono ?_; clear hs; rintro e w ⟨a5, c5, rfl, hs⟩; rw [HM.out] at hs ⊢) | ((with_reducible refine isl ?_); first | ((with_reducible apply ld hs.b0); exact rfl; exact rfl; exact rfl; exact rfl; kernel_rfl) | ((with_reducible apply st hs.b0); exact rfl; exact rfl; exact rfl; exact rfl; exact rfl; exact rfl; kernel_rfl; exact rfl; clear hs; intro w hs) | ((with_reducible apply stc hs.b0); exact rfl; exact rfl; exact rfl; exact rfl; exact rfl; kernel_rfl; exact rfl; clear hs; intro w hs) | ((with_reducible refine wrap hs ?_); clear hs; intro w hs) | ((with_reducible refine wrapn hs ?_); clear hs; intro w hs) | ((with_reducible refine wrapd hs ?_); clear hs; intro w hs)))
  replace hs : sat W (own 3 1 (.slice a5 m c5) m (natsV xs) :: cel b 44 (winL wd off) :: (Hc ++ H)) w := hs
  go_loopw [8, 9] (fun s8 i wr => ∃ k at' : Nat, k ≤ m ∧ s8 = .int .i64 (at' : Int) ∧ i = .int .i64 (k : Int) ∧ Hid (Pan.lastAll most 0 (xs.take k) = at') ∧ sat W (own 3 1 (.slice a5 m c5) m (natsV xs) :: cel b 44 (winL wd off) :: (Hc ++ H)) wr) (fun _ i _ => ((m : Int) - intOf i).toNat)
  case atStart => exact ⟨0, 0, Nat.zero_le _, rfl, rfl, Lib.hid rfl, hs⟩
  case round =>
    clear hs
    obtain ⟨k, at', hk, rfl, rfl, HA, hs⟩ := hrel
    by_cases hkm : k < m
    · obtain ⟨g5, c6, e5⟩ := hs.own_some (by omega)
      cases e5
      obtain ⟨x, hx⟩ : ∃ x, xs[k]? = some x := ⟨_, List.getElem?_eq_getElem (by have := HM.out; omega)⟩
      have HV := Lib.hid (natsV_get hx)
      have z1 : (k : Int) < (m : Int) := by omega
      have ht : xs.take k ++ [x] = xs.take (k + 1) := by rw [List.take_add_one, hx]; rfl
      by_cases hxm : (x : Int) ≤ most
      · have HA2 := Lib.hid (show Pan.lastAll most 0 (xs.take (k + 1)) = x by rw [← ht, Pan.lastAll_snoc, if_pos hxm])
        clear hx ht
        go_wp2_with (first | ((with_reducible refine isl ?_); first | ((with_reducible apply ldo hs.b0); exact rfl; exact rfl; exact rfl; exact HV.out; kernel_rfl) | ((with_reducible refine wrap hs ?_); clear hs; intro w hs) | ((with_reducible refine wrapn hs ?_); clear hs; intro w hs) | ((with_reducible refine wrapd hs ?_); clear hs; intro w hs)))
        go_roundw
        case rel => exact ⟨k + 1, x, by omega, by go_num, by go_num, HA2, hs⟩
        case measure => simp [intOf]; omega
      · have HA2 := Lib.hid (show Pan.lastAll most 0 (xs.take (k + 1)) = at' by rw [← ht, Pan.lastAll_snoc, if_neg hxm]; exact HA.out)
        clear hx ht
        go_wp2_with (first | ((with_reducible refine isl ?_); first | ((with_reducible apply ldo hs.b0); exact rfl; exact rfl; exact rfl; exact HV.out; kernel_rfl) | ((with_reducible refine wrap hs ?_); clear hs; intro w hs) | ((with_reducible refine wrapn hs ?_); clear hs; intro w hs) | ((with_reducible refine wrapd hs ?_); clear hs; intro w hs)))
        go_roundw
        case rel => exact ⟨k + 1, at', by omega, by go_num, by go_num, HA2, hs⟩
        case measure => simp [intOf]; omega
    · have hkm : k = m := by omega
      subst hkm
      have HF := Lib.hid (show o = at' by rw [← HO.out, ← HA.out, List.take_of_length_le (by rw [HM.out]; exact Nat.le_refl _)])
      go_wp2_with (first | ((with_reducible refine isl ?_); first | ((with_reducible refine wrap hs ?_); clear hs; intro w hs) | ((with_reducible refine wrapn hs ?_); clear hs; intro w hs) | ((with_reducible refine wrapd hs ?_); clear hs; intro w hs)))
      go_ret
      rw [HF.out]
      exact ⟨rfl, hs.drop⟩
theorem rhold23 (hw : 0 < wd) (hw2 : wd ≤ 80) (hr : RdC Hc a n c cells) (hg : n ≤ 1000) {o : Nat} (ho : lastOf cells wd hw (off : Int) = o) (hs : sat W (cel b 44 (winL wd off) :: (Hc ++ H)) w) :
    Calls Try.prog 23 #[.pointer (some ⟨b, 0, none⟩), .slice a n c] w fun e w' => e = .returned (.tuple #[]) ∧ sat W (cel b 44 (winL wd o) :: (Hc ++ H)) w' := by
  have HO := Lib.hid ho
  have HR := Lib.hid hr
  clear ho hr
  go_enter Try.func23, Try.ntmps23
  go_wp2_with (first | (go_at_call 31; refine (rlast31 hw hw2 HR.out hg _ HO.out hs).mono ?_; clear hs; rintro e w ⟨rfl, hs⟩) | ((with_reducible refine isl ?_); first | ((with_reducible apply ld hs.b0); exact rfl; exact rfl; exact rfl; exact rfl; kernel_rfl) | ((with_reducible apply st hs.b0); exact rfl; exact rfl; exact rfl; exact rfl; exact rfl; exact rfl; kernel_rfl; exact rfl; clear hs; intro w hs) | ((with_reducible apply stc hs.b0); exact rfl; exact rfl; exact rfl; exact rfl; exact rfl; kernel_rfl; exact rfl; clear hs; intro w hs) | ((with_reducible refine wrap hs ?_); clear hs; intro w hs) | ((with_reducible refine wrapn hs ?_); clear hs; intro w hs) | ((with_reducible refine wrapd hs ?_); clear hs; intro w hs)))
  first | exact end_ret0 rfl rfl ⟨rfl, hs⟩ | exact end_end0 rfl rfl ⟨rfl, hs⟩
theorem rleft_no (hw : 0 < wd) (hw2 : wd ≤ 80) (hr : RdC Hc a n c cells) (hg : n ≤ 1000) (ho : lastOf cells wd hw (off : Int) = 0) (hs : sat W (cel b 44 (winL wd off) :: (Hc ++ H)) w) :
    Calls Try.prog 20 #[.pointer (some ⟨b, 0, none⟩), .slice a n c] w fun e w' => e = .returned (.bool false) ∧ sat W (cel b 44 (winL wd 0) :: (Hc ++ H)) w' := by
  have HO := Lib.hid ho
  have HR := Lib.hid hr
  clear ho hr
  go_enter Try.func20, Try.ntmps20
  go_wp2_with (first | (go_at_call 23; refine (rhold23 hw hw2 HR.out hg HO.out hs).mono ?_; clear hs; rintro e w ⟨rfl, hs⟩) | ((with_reducible refine isl ?_); first | ((with_reducible apply ld hs.b0); exact rfl; exact rfl; exact rfl; exact rfl; kernel_rfl) | ((with_reducible apply st hs.b0); exact rfl; exact rfl; exact rfl; exact rfl; exact rfl; exact rfl; kernel_rfl; exact rfl; clear hs; intro w hs) | ((with_reducible apply stc hs.b0); exact rfl; exact rfl; exact rfl; exact rfl; exact rfl; kernel_rfl; exact rfl; clear hs; intro w hs) | ((with_reducible refine wrap hs ?_); clear hs; intro w hs) | ((with_reducible refine wrapn hs ?_); clear hs; intro w hs) | ((with_reducible refine wrapd hs ?_); clear hs; intro w hs)))
  go_ret
  exact ⟨rfl, hs⟩
theorem rleft_yes (hw : 0 < wd) (hw2 : wd ≤ 80) (hr : RdC Hc a n c cells) (hg : n ≤ 1000) {o o2 : Nat} (h0 : 0 < o) (hob : o ≤ 1000000) (ho : lastOf cells wd hw (off : Int) = o) (ho2 : lastOf cells wd hw ((o : Int) - 1) = o2) (hs : sat W (cel b 44 (winL wd off) :: (Hc ++ H)) w) :
    Calls Try.prog 20 #[.pointer (some ⟨b, 0, none⟩), .slice a n c] w fun e w' => e = .returned (.bool true) ∧ sat W (cel b 44 (winL wd o2) :: (Hc ++ H)) w' := by
  have HO := Lib.hid ho
  have HO2 := Lib.hid ho2
  have HR := Lib.hid hr
  have b0 : ((o : Int) == 0) = false := beq_no (by omega)
  clear ho hr ho2
  go_enter Try.func20, Try.ntmps20
  go_wp2_with (first | (go_at_call 23; refine (rhold23 hw hw2 HR.out hg HO.out hs).mono ?_; clear hs; rintro e w ⟨rfl, hs⟩) | (go_at_call 31; refine (rlast31 hw hw2 HR.out hg _ HO2.out hs).mono ?_; clear hs; rintro e w ⟨rfl, hs⟩) | ((with_reducible refine isl ?_); first | ((with_reducible apply ld hs.b0); exact rfl; exact rfl; exact rfl; exact rfl; kernel_rfl) | ((with_reducible apply st hs.b0); exact rfl; exact rfl; exact rfl; exact rfl; exact rfl; exact rfl; kernel_rfl; exact rfl; clear hs; intro w hs) | ((with_reducible apply stc hs.b0); exact rfl; exact rfl; exact rfl; exact rfl; exact rfl; kernel_rfl; exact rfl; clear hs; intro w hs) | ((with_reducible refine wrap hs ?_); clear hs; intro w hs) | ((with_reducible refine wrapn hs ?_); clear hs; intro w hs) | ((with_reducible refine wrapd hs ?_); clear hs; intro w hs)))
  go_ret
  exact ⟨rfl, hs⟩
theorem rto_no {i : Int} (hi : i < 0 ∨ (n : Int) ≤ i) (hs : sat W H w) (p : Value) :
    Calls Try.prog 22 #[p, .slice a n c, .int .i64 i] w fun e w' => e = .returned (.bool false) ∧ sat W H w' := by
  by_cases h1 : i < 0
  · clear hi
    go_enter Try.func22, Try.ntmps22
    go_wp2
    go_ret
    exact ⟨rfl, hs⟩
  · have h2 : (n : Int) ≤ i := by omega
    clear hi
    go_enter Try.func22, Try.ntmps22
    go_wp2
    go_ret
    exact ⟨rfl, hs⟩
theorem rto_yes (hw : 0 < wd) (hw2 : wd ≤ 80) (hr : RdC Hc a n c cells) (hg : n ≤ 1000) {i : Int} (h0 : 0 ≤ i) (h1 : i < (n : Int)) {o : Nat} (ho : lastOf cells wd hw i = o) (hs : sat W (cel b 44 (winL wd off) :: (Hc ++ H)) w) :
    Calls Try.prog 22 #[.pointer (some ⟨b, 0, none⟩), .slice a n c, .int .i64 i] w fun e w' => e = .returned (.bool true) ∧ sat W (cel b 44 (winL wd o) :: (Hc ++ H)) w' := by
  have HO := Lib.hid ho
  have HR := Lib.hid hr
  clear ho hr
  go_enter Try.func22, Try.ntmps22
  go_wp2_with (first | (go_at_call 31; refine (rlast31 hw hw2 HR.out hg _ HO.out hs).mono ?_; clear hs; rintro e w ⟨rfl, hs⟩) | ((with_reducible refine isl ?_); first | ((with_reducible apply ld hs.b0); exact rfl; exact rfl; exact rfl; exact rfl; kernel_rfl) | ((with_reducible apply st hs.b0); exact rfl; exact rfl; exact rfl; exact rfl; exact rfl; exact rfl; kernel_rfl; exact rfl; clear hs; intro w hs) | ((with_reducible apply stc hs.b0); exact rfl; exact rfl; exact rfl; exact rfl; exact rfl; kernel_rfl; exact rfl; clear hs; intro w hs) | ((with_reducible refine wrap hs ?_); clear hs; intro w hs) | ((with_reducible refine wrapn hs ?_); clear hs; intro w hs) | ((with_reducible refine wrapd hs ?_); clear hs; intro w hs)))
  go_ret
  exact ⟨rfl, hs⟩
end
end Go.Proofs.Ytdbhgjkdblhhkaa
