/- Law 20: cells of one's own, each with its marks; a copy. -/
import Derived.Test.YtcheljogpffabaaSf
import Derived.Test.YtcheljogpffabaaW23
namespace Go.Proofs.Ytcheljogpffabaa
open Go.RowKit Go.Mem Go.Words Go.Deep
variable {W w : World} {H : List HProp} {a : Option Addr} {n cp : Nat} {L : List Cm}
theorem slty22 : SlTy Try.prog 57 60 6 48 := ⟨Try.underlying57, by obtain ⟨i0, hi, hz0, hz1, hz2⟩ := info_parts (show (Try.prog.info? 60).map (fun i => (i.zero, i.size, i.bytes)) = some (some (.agg #[.int .i32 0, .slice none 0 0, .int .u8 0, .int .u32 0, .int .u32 0, .int .u16 0]), 6, 48) by kernel_rfl); exact ⟨i0, _, hi, hz0, hz1, hz2, rfl⟩, by decide⟩
abbrev ownM (m : Cm) : HProp := own 21 1 (.slice m.ca m.c.comb.length m.cc) m.c.comb.length (i32s m.c.comb)
/-- The marks of cells, each in a block of its own. -/
def rowsS : List Cm → HProp
  | [] => pur True
  | m :: L => star (ownM m) (rowsS L)
def cellsF (L : List Cm) : List Value := (L.map cmV).flatten
theorem cellsF_snoc (L : List Cm) (m : Cm) : cellsF L ++ cmV m = cellsF (L ++ [m]) := by simp [cellsF]
theorem rows_nil (hs : sat W H w) : sat W (rowsS [] :: H) w := ⟨hs.1, hs.2.1, hs.2.2.1, holds_true hs.2.2.2⟩
/-- One cell's marks are taken out. -/
theorem rows_out : ∀ (A : List Cm) (m : Cm) (B : List Cm) {H : List HProp} {w : World}, sat W (rowsS (A ++ m :: B) :: H) w → sat W (ownM m :: rowsS A :: rowsS B :: H) w
  | [], m, B, H, w, hs => by
    have h1 : sat W (ownM m :: rowsS B :: H) w := sat.unstar hs
    exact (rows_nil h1).b1
  | x :: A, m, B, H, w, hs => by
    have h1 : sat W (ownM x :: rowsS (A ++ m :: B) :: H) w := sat.unstar hs
    have h2 := rows_out A m B h1.b1
    -- own m, rows A, rows B, own x
    have h3 : sat W (ownM x :: rowsS A :: ownM m :: rowsS B :: H) w := by (refine sb_from ?_ h2; repeat constructor)
    have h4 : sat W (rowsS (x :: A) :: ownM m :: rowsS B :: H) w := h3.star
    exact h4.b1
theorem rows_in : ∀ (A : List Cm) (m : Cm) (B : List Cm) {H : List HProp} {w : World}, sat W (ownM m :: rowsS A :: rowsS B :: H) w → sat W (rowsS (A ++ m :: B) :: H) w
  | [], m, B, H, w, hs => by
    have h1 : sat W (ownM m :: rowsS B :: H) w := hs.b1.drop
    exact h1.star
  | x :: A, m, B, H, w, hs => by
    have h1 : sat W (ownM x :: rowsS A :: ownM m :: rowsS B :: H) w := sat.unstar hs.b1
    have h2 : sat W (ownM m :: rowsS A :: rowsS B :: ownM x :: H) w := by (refine sb_from ?_ h1; repeat constructor)
    have h3 := rows_in A m B h2
    exact h3.b1.star
theorem rows_snoc {A : List Cm} {m : Cm} (hs : sat W (ownM m :: rowsS A :: H) w) : sat W (rowsS (A ++ [m]) :: H) w := rows_in A m [] ((rows_nil hs).b2.b2)
attribute [local irreducible] World.setCell World.setCells World.alloc World.drew World.drewN Calls sat cel own blk old wpQuiet wpList tx rowsS
theorem own37 {m : Cm} (hm : ∀ w', sat W H w' → Reads w' (.slice m.ca m.c.comb.length m.cc) (i32s m.c.comb)) (hq : m.c.comb.length ≤ 1000) (hs : sat W H w) :
    Calls Try.prog 48 #[.agg (cmV m).toArray] w fun e w' => ∃ a' c', e = .returned (.agg (cmV ⟨m.c, a', c', m.fg, m.bg, m.fl⟩).toArray) ∧ sat W (ownM ⟨m.c, a', c', m.fg, m.bg, m.fl⟩ :: H) w' := by
  have HM := Lib.hid hm
  have RL := Lib.hid (show (i32s m.c.comb).length = m.c.comb.length by simp)
  clear hm
  go_enter Try.func48, Try.ntmps48
  go_wp2_with (first | ((with_reducible refine isl ?_); first | ((with_reducible apply appf hs); exact rfl; exact rfl; exact rfl; exact rfl; exact slty27; exact HM.out _ (hs.dropN 3); exact i32_ok; exact RL.out; omega; clear hs; intro a6 c6 w hs) | ((with_reducible apply ldswx); exact rfl; exact rfl; exact rfl; (first | exact hs.b0 | exact hs.b1 | exact hs.b2 | exact hs.b3); exact row36) | ((with_reducible apply stswx); exact rfl; exact rfl; exact rfl; (first | exact hs.b0 | exact hs.b1 | exact hs.b2 | exact hs.b3); exact rfl; exact row36; exact rfl; exact rfl; exact rfl; clear hs; intro w hs) | ((with_reducible apply ldx); exact rfl; exact rfl; exact rfl; (first | exact hs.b0 | exact hs.b1 | exact hs.b2 | exact hs.b3); exact rfl; kernel_rfl) | ((with_reducible apply stx); exact rfl; exact rfl; exact rfl; (first | exact hs.b0 | exact hs.b1 | exact hs.b2 | exact hs.b3); exact rfl; exact rfl; exact rfl; kernel_rfl; exact rfl; clear hs; intro w hs) | ((with_reducible apply stcx); exact rfl; exact rfl; exact rfl; (first | exact hs.b0 | exact hs.b1 | exact hs.b2 | exact hs.b3); exact rfl; exact rfl; kernel_rfl; exact rfl; clear hs; intro w hs) | ((with_reducible refine wrap hs ?_); clear hs; (first | (have _t := z1; clear _t; generalize w.heap.size = z2) | generalize w.heap.size = z1); intro w hs) | ((with_reducible refine wrap hs ?_); clear hs; intro w hs) | ((with_reducible refine wrapn hs ?_); clear hs; intro w hs) | ((with_reducible refine wrapd hs ?_); clear hs; intro w hs)))
  refine ret_cell (l := cmV ⟨m.c, a6, c6, m.fg, m.bg, m.fl⟩) (by first | exact hs.b0 | exact hs.b1 | exact hs.b2) rfl rfl rfl (by kernel_rfl) ?_
  exact ⟨_, _, rfl, by (refine sb_from ?_ hs; repeat constructor)⟩
set_option maxHeartbeats 2000000 in
theorem copy19 {zr : Nat} (hc : CS W H a n cp L) (hz : size (cl L) ≤ 600) (hs : sat W (cel zr 71 [.slice a n cp] :: H) w) :
    Calls Try.prog 21 #[.pointer (some ⟨zr, 0, none⟩)] w fun e w' => ∃ (zc : Nat) (a' : Option Addr) (c' : Nat) (L' : List Cm), e = .returned (.pointer (some ⟨zc, 0, none⟩)) ∧ cl L' = cl L ∧ sat W (cel zc 71 [.slice a' n c'] :: own 60 6 (.slice a' n c') n (cellsF L') :: rowsS L' :: H) w' := by
  have hn0 := hc.len.1
  have hn : n ≤ 600 := by have := len_size (cl L); rw [List.length_map] at this; omega
  have HN := Lib.hid hn0
  have HC := Lib.hid hc
  have HZ := Lib.hid hz
  clear hc hz hn0
  go_enter Try.func21, Try.ntmps21
  go_wp2
  have hs1 : sat W (cel w.heap.size 71 [.slice none 0 0] :: cel zr 71 [.slice a n cp] :: H) (w.alloc (.cells #[.slice none 0 0] 71)) := hs.made
  clear hs
  revert hs1
  generalize w.heap.size = zc
  generalize w.alloc _ = w2
  intro hs
  replace hs : sat W (own 60 6 (.slice none 0 0) 0 (cellsF []) :: rowsS [] :: cel zc 71 [.slice none 0 0] :: cel zr 71 [.slice a n cp] :: H) w2 := (rows_nil hs).own_nil 60 6
  go_loopw [4] (fun i wr => ∃ (k : Nat) (L1 : List Cm) (a5 : Option Addr) (c5 : Nat), k ≤ n ∧ i = .int .i64 (k : Int) ∧ Hid (cl L1 = cl (L.take k)) ∧ sat W (own 60 6 (.slice a5 k c5) k (cellsF L1) :: rowsS L1 :: cel zc 71 [.slice a5 k c5] :: cel zr 71 [.slice a n cp] :: H) wr) (fun i _ => ((n : Int) - intOf i).toNat)
  case atStart => exact ⟨0, [], none, 0, Nat.zero_le _, rfl, Lib.hid rfl, hs⟩
  case round =>
    clear hs
    obtain ⟨k, L1, a5, c5, hk, rfl, HL, hs⟩ := hrel
    by_cases hlt : k < n
    · obtain ⟨⟨mc, ca, cc0, fg, bg, fl⟩, hm, b, off, rfl, hcc⟩ := HC.out.1.getm (hs.dropN 4) hlt
      have HCC := Lib.hid hcc
      have HM : Hid (∀ w', sat W H w' → Reads w' (.slice ca mc.comb.length cc0) (i32s mc.comb)) := Lib.hid (HC.out.2 _ (List.mem_of_getElem? hm))
      have HT : Hid (cl (L.take (k + 1)) = cl (L.take k) ++ [mc]) := Lib.hid (cl_take hm)
      have hq : mc.comb.length ≤ 1000 := by
        have h1 : size (cl (L.take k)) + (1 + mc.comb.length) ≤ size (cl L) := size_take hm
        have := HZ.out; omega
      have hkn : (k : Int) < (n : Int) := by omega
      clear hcc hm
      go_upto_region 5 with (first | ((with_reducible refine isl ?_); first | ((with_reducible apply ldx); exact rfl; exact rfl; exact rfl; (first | exact hs.b0 | exact hs.b1 | exact hs.b2 | exact hs.b3 | exact hs.b4); exact rfl; kernel_rfl) | ((with_reducible apply stx); exact rfl; exact rfl; exact rfl; (first | exact hs.b0 | exact hs.b1 | exact hs.b2 | exact hs.b3 | exact hs.b4); exact rfl; exact rfl; exact rfl; kernel_rfl; exact rfl; clear hs; intro w hs) | ((with_reducible apply stcx); exact rfl; exact rfl; exact rfl; (first | exact hs.b0 | exact hs.b1 | exact hs.b2 | exact hs.b3 | exact hs.b4); exact rfl; exact rfl; kernel_rfl; exact rfl; clear hs; intro w hs) | ((with_reducible refine wrap hs ?_); clear hs; intro w hs) | ((with_reducible refine wrapn hs ?_); clear hs; intro w hs) | ((with_reducible refine wrapd hs ?_); clear hs; intro w hs)))
      refine L_begin 17 17 (cel zc 71 [.slice a5 k c5] :: cel zr 71 [.slice (some ⟨b, off, none⟩) n cp] :: H) (cel zc 71 [.slice a5 k c5] :: cel zr 71 [.slice (some ⟨b, off, none⟩) n cp] :: H) hs (fun _ h => by (refine sb_from ?_ h; repeat constructor)) (fun _ h => by (refine sb_from ?_ h; repeat constructor)) (by kernel_rfl) ?_; clear hs; intro w hs hd
      refine L_reads2 [0, 1, 2, 3, 4, 5, 6, 7, 8, 9, 10, 11] #[true, true, true, true, true, true, true, true, true, true, true, true, false, false, false, false, false, false] (fuel := 6) hd (by kernel_rfl) (fun _ _ _ _ _ h => h) ?_; clear hd; intro X f hne hf hcl hd; simp only [nths, nth, List.append_nil, List.nil_append, List.cons_append]; (try simp only [Act.put, List.setIfInBounds_toArray, List.set_cons_succ, List.set_cons_zero]); (repeat ((first | ((with_reducible apply ldscq (cs := cmV ⟨mc, ca, cc0, fg, bg, fl⟩)); exact rfl; exact rfl; exact rfl; exact fun x => HCC.out _ ((hf x).dropN 2); exact row36) | ((with_reducible apply ldqx); exact rfl; exact rfl; exact rfl; (first | exact fun x => (hf x).b0 | exact fun x => (hf x).b1); exact rfl; kernel_rfl) | go_big_quiet_step (fail)); (try simp only [Act.put, List.setIfInBounds_toArray, List.set_cons_succ, List.set_cons_zero]))); refine wpQuiet_nil ?_; clear hcl hf hne f X
      refine L_each [12] (by kernel_rfl) ⟨?_, trivial⟩
      simp only [nth]
      go_wp2_with (go_at_call 48; refine (own37 (m := ⟨mc, ca, cc0, fg, bg, fl⟩) (fun w' h => HM.out w' (h.dropN 4)) hq hs).mono ?_; clear hs; rintro e w ⟨a6, c6, rfl, hs⟩)
      (first | refine on_now hs ?_ | refine on_now hs.drew ?_ | refine on_now hs.made ?_ | refine on_now hs.made.drew ?_ | refine on_now (hs.drewN _) ?_); clear hs; intro hs
      refine L_on (cel zc 71 [.slice a5 k c5] :: cel zr 71 [.slice (some ⟨b, off, none⟩) n cp] :: H) (cel zc 71 [.slice a5 k c5] :: cel zr 71 [.slice (some ⟨b, off, none⟩) n cp] :: H) #[true, true, true, true, true, true, true, true, true, true, true, true, true, false, false, false, false, false] (fuel := 5) hs (by kernel_rfl) (fun _ h => h) (fun _ h => h) (fun _ => by (refine sb_from ?_ hs; repeat constructor)) (fun _ => by (refine sb_from ?_ hs; repeat constructor)) ?_; clear hd hs; intro hd hs
      refine L_each [13] (by kernel_rfl) ⟨?_, trivial⟩
      simp only [nth]
      go_wp2_with (first | ((with_reducible refine isl ?_); first | ((with_reducible apply ldx); exact rfl; exact rfl; exact rfl; (first | exact hs.b0 | exact hs.b1 | exact hs.b2 | exact hs.b3 | exact hs.b4 | exact hs.b5 | exact hs.b6); exact rfl; kernel_rfl) | ((with_reducible apply stx); exact rfl; exact rfl; exact rfl; (first | exact hs.b0 | exact hs.b1 | exact hs.b2 | exact hs.b3 | exact hs.b4 | exact hs.b5 | exact hs.b6); exact rfl; exact rfl; exact rfl; kernel_rfl; exact rfl; clear hs; intro w hs) | ((with_reducible apply stcx); exact rfl; exact rfl; exact rfl; (first | exact hs.b0 | exact hs.b1 | exact hs.b2 | exact hs.b3 | exact hs.b4 | exact hs.b5 | exact hs.b6); exact rfl; exact rfl; kernel_rfl; exact rfl; clear hs; intro w hs) | ((with_reducible refine wrap hs ?_); clear hs; intro w hs) | ((with_reducible refine wrapn hs ?_); clear hs; intro w hs) | ((with_reducible refine wrapd hs ?_); clear hs; intro w hs)))
      (first | refine on_now hs ?_ | refine on_now hs.drew ?_ | refine on_now hs.made ?_ | refine on_now hs.made.drew ?_ | refine on_now (hs.drewN _) ?_); clear hs; intro hs
      refine L_on (cel zc 71 [.slice a5 k c5] :: cel zr 71 [.slice (some ⟨b, off, none⟩) n cp] :: H) (cel zc 71 [.slice a5 k c5] :: cel zr 71 [.slice (some ⟨b, off, none⟩) n cp] :: H) #[true, true, true, true, true, true, true, true, true, true, true, true, true, true, false, false, false, false] (fuel := 4) hs (by kernel_rfl) (fun _ h => h) (fun _ h => h) (fun _ => by (refine sb_from ?_ hs; repeat constructor)) (fun _ => by (refine sb_from ?_ hs; repeat constructor)) ?_; clear hd hs; intro hd hs
      refine L_each [14] (by kernel_rfl) ⟨?_, trivial⟩
      simp only [nth]
      go_wp2_with (first | ((with_reducible apply app hs.b2); exact rfl; exact rfl; exact rfl; exact rfl; exact slty22; exact rfl; exact rfl; decide; omega; (unfold maxLen; omega); clear hs; intro g5 c7 w hs) | ((with_reducible apply app hs.b1); exact rfl; exact rfl; exact rfl; exact rfl; exact slty22; exact rfl; exact rfl; decide; omega; (unfold maxLen; omega); clear hs; intro g5 c7 w hs) | ((with_reducible apply app hs.b3); exact rfl; exact rfl; exact rfl; exact rfl; exact slty22; exact rfl; exact rfl; decide; omega; (unfold maxLen; omega); clear hs; intro g5 c7 w hs) | ((with_reducible apply app hs.b4); exact rfl; exact rfl; exact rfl; exact rfl; exact slty22; exact rfl; exact rfl; decide; omega; (unfold maxLen; omega); clear hs; intro g5 c7 w hs))
      (first | refine on_now hs ?_ | refine on_now hs.drew ?_ | refine on_now hs.made ?_ | refine on_now hs.made.drew ?_ | refine on_now (hs.drewN _) ?_); clear hs; intro hs
      refine L_on (cel zc 71 [.slice a5 k c5] :: cel zr 71 [.slice (some ⟨b, off, none⟩) n cp] :: H) (cel zc 71 [.slice a5 k c5] :: cel zr 71 [.slice (some ⟨b, off, none⟩) n cp] :: H) #[true, true, true, true, true, true, true, true, true, true, true, true, true, true, true, false, false, false] (fuel := 3) hs (by kernel_rfl) (fun _ h => h) (fun _ h => h) (fun _ => by (refine sb_from ?_ hs; repeat constructor)) (fun _ => by (refine sb_from ?_ hs; repeat constructor)) ?_; clear hd hs; intro hd hs
      refine L_each [15] (by kernel_rfl) ⟨?_, trivial⟩
      simp only [nth]
      go_wp2_with (first | ((with_reducible refine isl ?_); first | ((with_reducible apply ldx); exact rfl; exact rfl; exact rfl; (first | exact hs.b0 | exact hs.b1 | exact hs.b2 | exact hs.b3 | exact hs.b4 | exact hs.b5 | exact hs.b6); exact rfl; kernel_rfl) | ((with_reducible apply stx); exact rfl; exact rfl; exact rfl; (first | exact hs.b0 | exact hs.b1 | exact hs.b2 | exact hs.b3 | exact hs.b4 | exact hs.b5 | exact hs.b6); exact rfl; exact rfl; exact rfl; kernel_rfl; exact rfl; clear hs; intro w hs) | ((with_reducible apply stcx); exact rfl; exact rfl; exact rfl; (first | exact hs.b0 | exact hs.b1 | exact hs.b2 | exact hs.b3 | exact hs.b4 | exact hs.b5 | exact hs.b6); exact rfl; exact rfl; kernel_rfl; exact rfl; clear hs; intro w hs) | ((with_reducible refine wrap hs ?_); clear hs; intro w hs) | ((with_reducible refine wrapn hs ?_); clear hs; intro w hs) | ((with_reducible refine wrapd hs ?_); clear hs; intro w hs)))
      (first | refine on_now hs ?_ | refine on_now hs.drew ?_ | refine on_now hs.made ?_ | refine on_now hs.made.drew ?_ | refine on_now (hs.drewN _) ?_); clear hs; intro hs
      refine L_on (cel zc 71 [.slice a5 k c5] :: cel zr 71 [.slice (some ⟨b, off, none⟩) n cp] :: H) (cel zc 71 [.slice a5 k c5] :: cel zr 71 [.slice (some ⟨b, off, none⟩) n cp] :: H) #[true, true, true, true, true, true, true, true, true, true, true, true, true, true, true, true, false, false] (fuel := 2) hs (by kernel_rfl) (fun _ h => h) (fun _ h => h) (fun _ => by (refine sb_from ?_ hs; repeat constructor)) (fun _ => by (refine sb_from ?_ hs; repeat constructor)) ?_; clear hd hs; intro hd hs
      refine L_reads2 [16] #[true, true, true, true, true, true, true, true, true, true, true, true, true, true, true, true, true, false] (fuel := 1) hd (by kernel_rfl) (fun _ _ _ _ _ h => h) ?_; clear hd; intro X f hne hf hcl hd; simp only [nths, nth, List.append_nil, List.nil_append, List.cons_append]; (try simp only [Act.put, List.setIfInBounds_toArray, List.set_cons_succ, List.set_cons_zero]); (repeat ((first | ((with_reducible apply ldscq (cs := cmV ⟨mc, ca, cc0, fg, bg, fl⟩)); exact rfl; exact rfl; exact rfl; exact fun x => HCC.out _ ((hf x).dropN 2); exact row36) | ((with_reducible apply ldqx); exact rfl; exact rfl; exact rfl; (first | exact fun x => (hf x).b0 | exact fun x => (hf x).b1); exact rfl; kernel_rfl) | go_big_quiet_step (fail)); (try simp only [Act.put, List.setIfInBounds_toArray, List.set_cons_succ, List.set_cons_zero]))); refine wpQuiet_nil ?_; clear hcl hf hne f X
      refine L_each [17] (by kernel_rfl) ⟨?_, trivial⟩
      simp only [nth]
      go_wp2_with (first | ((with_reducible refine isl ?_); first | ((with_reducible apply ldx); exact rfl; exact rfl; exact rfl; (first | exact hs.b0 | exact hs.b1 | exact hs.b2 | exact hs.b3 | exact hs.b4 | exact hs.b5 | exact hs.b6); exact rfl; kernel_rfl) | ((with_reducible apply stx); exact rfl; exact rfl; exact rfl; (first | exact hs.b0 | exact hs.b1 | exact hs.b2 | exact hs.b3 | exact hs.b4 | exact hs.b5 | exact hs.b6); exact rfl; exact rfl; exact rfl; kernel_rfl; exact rfl; clear hs; intro w hs) | ((with_reducible apply stcx); exact rfl; exact rfl; exact rfl; (first | exact hs.b0 | exact hs.b1 | exact hs.b2 | exact hs.b3 | exact hs.b4 | exact hs.b5 | exact hs.b6); exact rfl; exact rfl; kernel_rfl; exact rfl; clear hs; intro w hs) | ((with_reducible refine wrap hs ?_); clear hs; intro w hs) | ((with_reducible refine wrapn hs ?_); clear hs; intro w hs) | ((with_reducible refine wrapd hs ?_); clear hs; intro w hs)))
      (first | refine on_now hs ?_ | refine on_now hs.drew ?_ | refine on_now hs.made ?_ | refine on_now hs.made.drew ?_ | refine on_now (hs.drewN _) ?_); clear hs; intro hs
      refine L_on (cel zc 71 [.slice a5 k c5] :: cel zr 71 [.slice (some ⟨b, off, none⟩) n cp] :: H) (cel zc 71 [.slice a5 k c5] :: cel zr 71 [.slice (some ⟨b, off, none⟩) n cp] :: H) #[true, true, true, true, true, true, true, true, true, true, true, true, true, true, true, true, true, true] (fuel := 0) hs (by kernel_rfl) (fun _ h => h) (fun _ h => h) (fun e => absurd e (by decide)) (fun e => absurd e (by decide)) ?_; clear hd hs; intro hd hs
      refine L_done (by kernel_rfl) ?_; clear hd
      replace hs : sat W (own 60 6 (.slice (some ⟨g5, 0, none⟩) (k + 1) c7) (k + 1) (cellsF (L1 ++ [⟨mc, a6, c6, fg, bg, fl⟩])) :: rowsS (L1 ++ [⟨mc, a6, c6, fg, bg, fl⟩]) :: cel zc 71 [.slice (some ⟨g5, 0, none⟩) (k + 1) c7] :: cel zr 71 [.slice (some ⟨b, off, none⟩) n cp] :: H) w := by
        rw [cellsF_snoc L1 ⟨mc, a6, c6, fg, bg, fl⟩] at hs
        have h2 : sat W (ownM ⟨mc, a6, c6, fg, bg, fl⟩ :: rowsS L1 :: own 60 6 (.slice (some ⟨g5, 0, none⟩) (k + 1) c7) (k + 1) (cellsF (L1 ++ [⟨mc, a6, c6, fg, bg, fl⟩])) :: cel zc 71 [.slice (some ⟨g5, 0, none⟩) (k + 1) c7] :: cel zr 71 [.slice (some ⟨b, off, none⟩) n cp] :: H) w := by (refine sb_from ?_ hs; repeat constructor)
        exact (rows_snoc h2).b1
      go_wp2
      go_roundw
      case rel => exact ⟨k + 1, L1 ++ [⟨mc, a6, c6, fg, bg, fl⟩], _, _, hlt, by go_num, Lib.hid (by rw [HT.out, cl, List.map_append, ← HL.out]; rfl), hs⟩
      case measure => simp [intOf]; omega
    · obtain rfl : k = n := by omega
      have HE : Hid (cl L1 = cl L) := Lib.hid (by have := HL.out; rwa [List.take_of_length_le (by have := HN.out; omega)] at this)
      go_wp2_with (first | ((with_reducible refine isl ?_); first | ((with_reducible apply ldx); exact rfl; exact rfl; exact rfl; (first | exact hs.b0 | exact hs.b1 | exact hs.b2 | exact hs.b3 | exact hs.b4); exact rfl; kernel_rfl) | ((with_reducible apply stx); exact rfl; exact rfl; exact rfl; (first | exact hs.b0 | exact hs.b1 | exact hs.b2 | exact hs.b3 | exact hs.b4); exact rfl; exact rfl; exact rfl; kernel_rfl; exact rfl; clear hs; intro w hs) | ((with_reducible apply stcx); exact rfl; exact rfl; exact rfl; (first | exact hs.b0 | exact hs.b1 | exact hs.b2 | exact hs.b3 | exact hs.b4); exact rfl; exact rfl; kernel_rfl; exact rfl; clear hs; intro w hs) | ((with_reducible refine wrap hs ?_); clear hs; intro w hs) | ((with_reducible refine wrapn hs ?_); clear hs; intro w hs) | ((with_reducible refine wrapd hs ?_); clear hs; intro w hs)))
      go_ret
      exact ⟨zc, _, _, L1, rfl, HE.out, by (refine sb_from ?_ hs; repeat constructor)⟩
end Go.Proofs.Ytcheljogpffabaa
