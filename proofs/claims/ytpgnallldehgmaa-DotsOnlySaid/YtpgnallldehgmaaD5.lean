import Derived.Test.YtpgnallldehgmaaD4
namespace Go.Proofs.Ytpgnallldehgmaa
open Go.RowKit Go.Mem Go.Dots
variable {W w : World} {H : List HProp}
theorem cellTxt_len : ∀ c < 256, (cellTxt c).length ≤ 9 := by decide +kernel
theorem take_hid {l : List Nat} {k n : Nat} (hn : l.length = n) (h : k < n) : l.take (k + 1) = l.take k ++ [l.getD k 0] := by
  rw [List.take_succ_eq_append_getElem (by omega), List.getD_eq_getElem?_getD, List.getElem?_eq_getElem (by omega)]; rfl
theorem getD_lt {l : List Nat} (hl : ∀ x ∈ l, x < 256) (k : Nat) : l.getD k 0 < 256 := by
  rw [List.getD_eq_getElem?_getD]
  by_cases h : k < l.length
  · rw [List.getElem?_eq_getElem h]; exact hl _ (List.getElem_mem _)
  · rw [List.getElem?_eq_none (by omega)]; decide
attribute [local irreducible] World.setCell World.alloc World.drew World.drewN Calls sat cel own blk old wpQuiet bs by_ cellTxt txt showB

set_option maxHeartbeats 1000000 in
theorem rtext14 (l : List Nat) (hl : ∀ x ∈ l, x < 256) (hlen : l.length ≤ 1000) (v : Value) (hr : ∀ w', sat W H w' → Reads w' v (nums .u8 l)) (hs : sat W H w) :
    Calls Try.prog 14 #[v] w fun e w' => e = .returned (.string (bs (txt l))) ∧ sat W H w' := by
  obtain ⟨_, ad, cap, rfl, _⟩ := hr w hs
  rw [nums_length] at hr ⊢
  have HR := Lib.hid hr
  clear hr
  generalize hn : l.length = n at *
  have HN := Lib.hid hn
  clear hn
  go_enter Try.func14, Try.ntmps14
  go_wp2_with (first
    | (refine wrap hs ?_; clear hs; intro w hs)
    | (refine wrapn hs ?_; clear hs; intro w hs)
    | (refine wrapd hs ?_; clear hs; intro w hs))
  go_loopw [3, 4] (fun sv i wr => ∃ (k : Nat) (t : List Nat), k ≤ n ∧ Hid (t = txt (l.take k)) ∧ t.length ≤ 10 * k ∧ i = .int .i64 k ∧ sv = .string (bs t) ∧ sat W H wr) (fun _ i _ => n - (intOf i).toNat)
  case atStart => exact ⟨0, [], Nat.zero_le _, txt_nil.symm, by simp, rfl, by rw [bs_nil], hs⟩
  case round =>
    clear hs
    obtain ⟨k, t, hk, ht, hm2, rfl, rfl, hs⟩ := hrel
    by_cases hlt : k < n
    · obtain ⟨-, b, off, rfl, hc⟩ := reads_cells HR.out hs (by rw [nums_length, HN.out]; omega)
      have HC := Lib.hid (fun w' h => hc w' h k _ (nums_get (by rw [HN.out]; exact hlt)))
      clear hc
      have hc8 : l.getD k 0 < 256 := getD_lt hl k
      have HT := Lib.hid (show txt (l.take (k + 1)) = t ++ (if 0 < k then [45] else []) ++ cellTxt (l.getD k 0) by
        rw [take_hid HN.out hlt, txt_snoc, ← ht.out, List.length_take, HN.out, Nat.min_eq_left (by omega)])
      have HL := Lib.hid hl
      clear hl
      generalize l.getD k 0 = c at *
      have h9 := cellTxt_len c hc8
      have hz1 : ¬ 9223372036854775807 < (bs t).size + (ByteArray.mk #[45]).size := by rw [bs_size]; have : (ByteArray.mk #[45]).size = 1 := rfl; omega
      have hz2 : ¬ 9223372036854775807 < (bs t ++ (ByteArray.mk #[45])).size + (bs (cellTxt c)).size := by rw [ByteArray.size_append, bs_size, bs_size]; have : (ByteArray.mk #[45]).size = 1 := rfl; omega
      have hz3 : ¬ 9223372036854775807 < (bs t).size + (bs (cellTxt c)).size := by rw [bs_size, bs_size]; omega
      by_cases h0 : 0 < k
      all_goals
        go_wp2_with (first
    | (apply ldc; exact rfl; exact rfl; exact rfl; exact HC.out _ hs; kernel_rfl)
    | (go_at_call 19; refine (one19 _ hc8 hs).mono ?_; clear hs; rintro e w ⟨rfl, hs⟩)
    | (refine wrap hs ?_; clear hs; intro w hs)
    | (refine wrapn hs ?_; clear hs; intro w hs)
    | (refine wrapd hs ?_; clear hs; intro w hs))
        go_roundw
        case rel => exact ⟨k + 1, t ++ (if 0 < k then [45] else []) ++ cellTxt c, by omega, Lib.hid HT.out.symm, by simp only [List.length_append]; split <;> simp <;> omega, by go_num, by first | (rw [if_pos h0, bs_append, bs_append, bs_one]; rfl) | (rw [if_neg h0, List.append_nil, bs_append]), hs⟩
        case measure => simp [intOf]; omega
    · have HK := Lib.hid (show k = n by omega)
      go_wp2_with (first
    | (refine wrap hs ?_; clear hs; intro w hs)
    | (refine wrapn hs ?_; clear hs; intro w hs)
    | (refine wrapd hs ?_; clear hs; intro w hs))
      go_ret
      exact ⟨by rw [ht.out, List.take_of_length_le (by rw [HN.out, HK.out]; exact Nat.le_refl _)]; rfl, hs⟩

theorem slty36 : SlTy Try.prog 36 21 1 4 := ⟨Try.underlying36, by obtain ⟨i0, hi, hz0, hz1, hz2⟩ := info_parts (show (Try.prog.info? 21).map (fun i => (i.zero, i.size, i.bytes)) = some (some (.int .i32 0), 1, 4) by kernel_rfl); exact ⟨i0, _, hi, hz0, hz1, hz2, rfl⟩, by decide⟩
def rn (l : List Nat) : List Int := l.map fun c => ((10240 + c : Nat) : Int)
theorem rn_snoc (l : List Nat) (c : Nat) : rn (l ++ [c]) = rn l ++ [((10240 + c : Nat) : Int)] := by simp [rn]
set_option maxHeartbeats 1000000 in
theorem show11 (l : List Nat) (hl : ∀ x ∈ l, x < 256) (hlen : l.length ≤ 1000) (v : Value) (hr : ∀ w', sat W H w' → Reads w' v (nums .u8 l)) (hs : sat W H w) :
    Calls Try.prog 11 #[v] w fun e w' => e = .returned (.string (bs (showB l))) ∧ sat W H w' := by
  obtain ⟨_, ad, cap, rfl, _⟩ := hr w hs
  rw [nums_length] at hr ⊢
  have HR := Lib.hid hr
  clear hr
  generalize hn : l.length = n at *
  have HN := Lib.hid hn
  clear hn
  have hs := hs.own_nil 21 1
  go_enter Try.func11, Try.ntmps11
  go_wp2_with (first
    | (refine wrap hs ?_; clear hs; intro w hs)
    | (refine wrapn hs ?_; clear hs; intro w hs)
    | (refine wrapd hs ?_; clear hs; intro w hs))
  go_loopw [3, 8] (fun bv i wr => ∃ (k : Nat) (t : List Int) (a : Option Addr) (cp : Nat), k ≤ n ∧ Hid (t = rn (l.take k)) ∧ i = .int .i64 k ∧ bv = .slice a k cp ∧ sat W (own 21 1 (.slice a k cp) k (t.map (Value.int .i32)) :: H) wr) (fun _ i _ => n - (intOf i).toNat)
  case atStart => exact ⟨0, [], none, 0, Nat.zero_le _, rfl, rfl, rfl, hs⟩
  case round =>
    clear hs
    obtain ⟨k, t, a, cp, hk, ht, rfl, rfl, hs⟩ := hrel
    by_cases hlt : k < n
    · obtain ⟨-, b, off, rfl, hc⟩ := reads_cells HR.out hs.drop (by rw [nums_length, HN.out]; omega)
      have HC := Lib.hid (fun w' h => hc w' h k _ (nums_get (by rw [HN.out]; exact hlt)))
      clear hc
      have hc8 : l.getD k 0 < 256 := getD_lt hl k
      have HT := Lib.hid (show rn (l.take (k + 1)) = t ++ [((10240 + l.getD k 0 : Nat) : Int)] by rw [take_hid HN.out hlt, rn_snoc, ← ht.out])
      have HL := Lib.hid hl
      clear hl
      generalize l.getD k 0 = c at *
      go_wp2_with (first
    | (apply ldc; exact rfl; exact rfl; exact rfl; exact HC.out _ hs.drop; kernel_rfl)
    | (go_at_call 8; refine (rune8 _ hc8 _).mono ?_; rintro e w ⟨rfl, rfl⟩)
    | (apply app hs.b1; exact rfl; exact rfl; exact rfl; exact rfl; exact slty36; exact rfl; exact rfl; decide; omega; unfold maxLen; omega; clear hs; intro a1 c1 w hs)
    | (refine wrap hs ?_; clear hs; intro w hs)
    | (refine wrapn hs ?_; clear hs; intro w hs)
    | (refine wrapd hs ?_; clear hs; intro w hs))
      go_roundw
      case rel => exact ⟨k + 1, _, _, _, by omega, Lib.hid HT.out.symm, by go_num, rfl, by simpa using hs⟩
      case measure => simp [intOf]; omega
    · have HK := Lib.hid (show k = n by omega)
      have HB := Lib.hid (runes_show l hl)
      go_wp2_with (first
    | (apply cvr (l := t); exact rfl; exact rfl; exact rfl; exact Try.underlying36; exact Try.underlying21; exact Try.underlying9; exact (hs.own_reads).1)
    | (refine wrap hs ?_; clear hs; intro w hs)
    | (refine wrapn hs ?_; clear hs; intro w hs)
    | (refine wrapd hs ?_; clear hs; intro w hs))
      go_ret
      exact ⟨by rw [ht.out, List.take_of_length_le (by rw [HN.out, HK.out]; exact Nat.le_refl _), show runesBytes (rn l) = bs (showB l) from HB.out]; rfl, hs.drop⟩

set_option maxHeartbeats 1000000 in
theorem rshow15 (l : List Nat) (hl : ∀ x ∈ l, x < 256) (hlen : l.length ≤ 1000) (v : Value) (hr : ∀ w', sat W H w' → Reads w' v (nums .u8 l)) (hs : sat W H w) :
    Calls Try.prog 15 #[v] w fun e w' => e = .returned (.string (bs (showB l))) ∧ sat W H w' := by
  obtain ⟨_, ad, cap, rfl, _⟩ := hr w hs
  rw [nums_length] at hr ⊢
  have HR := Lib.hid hr
  clear hr
  generalize hn : l.length = n at *
  have HN := Lib.hid hn
  clear hn
  have hs := hs.own_nil 5 1
  go_enter Try.func15, Try.ntmps15
  go_wp2_with (first
    | (refine wrap hs ?_; clear hs; intro w hs)
    | (refine wrapn hs ?_; clear hs; intro w hs)
    | (refine wrapd hs ?_; clear hs; intro w hs))
  go_loopw [3, 4] (fun bv i wr => ∃ (k m : Nat) (t : List Nat) (a : Option Addr) (cp : Nat), k ≤ n ∧ Hid (t = showB (l.take k)) ∧ m ≤ 3 * k ∧ i = .int .i64 k ∧ bv = .slice a m cp ∧ sat W (own 5 1 (.slice a m cp) m (nums .u8 t) :: H) wr) (fun _ i _ => n - (intOf i).toNat)
  case atStart => exact ⟨0, 0, [], none, 0, Nat.zero_le _, by unfold showB; rfl, by omega, rfl, rfl, hs⟩
  case round =>
    clear hs
    obtain ⟨k, m, t, a, cp, hk, ht, hm, rfl, rfl, hs⟩ := hrel
    by_cases hlt : k < n
    · obtain ⟨-, b, off, rfl, hc⟩ := reads_cells HR.out hs.drop (by rw [nums_length, HN.out]; omega)
      have HC := Lib.hid (fun w' h => hc w' h k _ (nums_get (by rw [HN.out]; exact hlt)))
      clear hc
      have hc8 : l.getD k 0 < 256 := getD_lt hl k
      have HT := Lib.hid (show showB (l.take (k + 1)) = t ++ show1 (l.getD k 0) by rw [take_hid HN.out hlt, ht.out]; unfold showB; simp)
      have HL := Lib.hid hl
      clear hl
      generalize l.getD k 0 = c at *
      go_wp2_with (first
    | (apply app hs.b1; exact rfl; exact rfl; exact rfl; exact rfl; exact slty28; exact rfl; exact rfl; decide; omega; unfold maxLen; omega; clear hs; intro a1 c1 w hs)
    | (refine wrap hs ?_; clear hs; intro w hs)
    | (refine wrapn hs ?_; clear hs; intro w hs)
    | (refine wrapd hs ?_; clear hs; intro w hs))
      have a1 : IntKind.u8.wrap ((c : Int) / 64) = (c : Int) / 64 := IntWalk.u8_in _ (by omega)
      have a2 : IntKind.u8.wrap (160 + (c : Int) / 64) = 160 + (c : Int) / 64 := IntWalk.u8_in _ (by omega)
      have a3 : (c : Int).tmod 64 = (c : Int) % 64 := Int.tmod_eq_emod_of_nonneg (by omega)
      have a4 : IntKind.u8.wrap (128 + (c : Int) % 64) = 128 + (c : Int) % 64 := IntWalk.u8_in _ (by omega)
      (go_region_held3 (fun w' => w'.cell? ⟨b, off + k, none⟩ = some (.int .u8 c)) (first | exact HC.out _ hs.drop | exact HC.out _ hs.drew.drop | exact HC.out _ (hs.alloc _).drew.drop.drop) (first | (refine sapp (hs.made.drew.b1) rfl rfl rfl rfl slty28 ?_ ?_ ?_ ?_ ?_ ?_; exact rfl; exact rfl; decide; omega; (unfold maxLen; omega); clear hs; intro a1 c1 w hs)))
      go_wp2_with (first
    | (refine wrap hs ?_; clear hs; intro w hs)
    | (refine wrapn hs ?_; clear hs; intro w hs)
    | (refine wrapd hs ?_; clear hs; intro w hs))
      go_roundw
      case rel => exact ⟨k + 1, _, t ++ show1 c, _, _, by omega, Lib.hid HT.out.symm, by omega, by go_num, rfl, by simpa [nums, show1] using hs⟩
      case measure => simp [intOf]; omega
    · have HK := Lib.hid (show k = n by omega)
      go_wp2_with (first
    | (apply cvs (l := t); exact rfl; exact rfl; exact rfl; exact Try.underlying28; exact Try.underlying5; exact Try.underlying9; exact (hs.own_reads).1)
    | (refine wrap hs ?_; clear hs; intro w hs)
    | (refine wrapn hs ?_; clear hs; intro w hs)
    | (refine wrapd hs ?_; clear hs; intro w hs))
      go_ret
      exact ⟨by rw [ht.out, List.take_of_length_le (by rw [HN.out, HK.out]; exact Nat.le_refl _)]; rfl, hs.drop⟩

theorem same16 (l1 l2 : List Nat) (h1 : ∀ x ∈ l1, x < 256) (h2 : ∀ x ∈ l2, x < 256) (v1 v2 : Value) (hr1 : Reads w v1 (nums .u8 l1)) (hr2 : Reads w v2 (nums .u8 l2)) :
    Calls Try.prog 16 #[v1, v2] w fun e w' => e = .returned (.bool (decide (l1 = l2))) ∧ w' = w := by
  have HE := Lib.hid (show ((bs l1).toList == (bs l2).toList) = decide (l1 = l2) by
    by_cases h : l1 = l2
    · rw [str_eq (by rw [h])]; simp [h]
    · rw [str_ne (fun e => h (bs_inj h1 h2 e))]; simp [h])
  clear h1 h2
  go_enter Try.func16, Try.ntmps16
  go_wp2_with (first | (apply cvs (l := l1); exact rfl; exact rfl; exact rfl; exact Try.underlying28; exact Try.underlying5; exact Try.underlying9; exact hr1) | (apply cvs (l := l2); exact rfl; exact rfl; exact rfl; exact Try.underlying28; exact Try.underlying5; exact Try.underlying9; exact hr2))
  go_ret
  exact ⟨ret_bool HE.out.symm, rfl⟩
end Go.Proofs.Ytpgnallldehgmaa
