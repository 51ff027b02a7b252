import Derived.Test.YtdbhgjkdblhhkaaP9
import Derived.Test.YtdbhgjkdblhhkaaP10
namespace Go.Proofs.Ytdbhgjkdblhhkaa
open Go.RowKit Go.Mem
variable {W w : World} {H : List HProp}
section
variable {cells : List Int} {Hc : List HProp} {a : Option Addr} {n c wd off b : Nat}
theorem right_yes (hw : 0 < wd) (hw2 : wd ≤ 80) (hr : RdC Hc a n c cells) {o y : Nat} (ho : lastOf cells wd hw (off : Int) = o) (hy : (Pan.begs cells wd hw 0).find? (fun y => decide (o < y)) = some y) (hs : sat W (cel b 36 (winL wd off) :: (Hc ++ H)) w) :
    Calls Try.prog 12 #[.pointer (some ⟨b, 0, none⟩), .slice a n c] w fun e w' => e = .returned (.bool true) ∧ sat W (cel b 36 (winL wd y) :: (Hc ++ H)) w' :=
  (right12 hw hw2 hr ho hs).mono fun e w' h => by
    rcases h with ⟨x, hx, he, h⟩ | ⟨hx, _⟩
    · rw [hy] at hx; cases hx; exact ⟨he, h⟩
    · rw [hy] at hx; cases hx
theorem right_no (hw : 0 < wd) (hw2 : wd ≤ 80) (hr : RdC Hc a n c cells) {o : Nat} (ho : lastOf cells wd hw (off : Int) = o) (hy : (Pan.begs cells wd hw 0).find? (fun y => decide (o < y)) = none) (hs : sat W (cel b 36 (winL wd off) :: (Hc ++ H)) w) :
    Calls Try.prog 12 #[.pointer (some ⟨b, 0, none⟩), .slice a n c] w fun e w' => e = .returned (.bool false) ∧ sat W (cel b 36 (winL wd o) :: (Hc ++ H)) w' :=
  (right12 hw hw2 hr ho hs).mono fun e w' h => by
    rcases h with ⟨x, hx, _⟩ | ⟨hx, he, h⟩
    · rw [hy] at hx; cases hx
    · exact ⟨he, h⟩
theorem rise (cells : List Int) (wd : Nat) (hw : 0 < wd) : (Pan.begs cells wd hw 0).Pairwise (· < ·) := Pan.begs_pw cells.length 0 (by omega)
theorem find_next {o y i : Nat} {l : List Nat} (h : l.Pairwise (· < ·)) (hx : l[i]? = some o) (hy : l[i + 1]? = some y) : l.find? (fun y => decide (o < y)) = some y := by
  rw [Pan.split_at hy]
  refine find_stop o _ y _ (Pan.pw_take h hx) ?_
  obtain ⟨h1, h2⟩ := List.getElem?_eq_some_iff.1 hy
  obtain ⟨h3, h4⟩ := List.getElem?_eq_some_iff.1 hx
  have := List.pairwise_iff_getElem.1 h i (i + 1) h3 h1 (by omega)
  omega
theorem find_last {o i : Nat} {l : List Nat} (h : l.Pairwise (· < ·)) (hx : l[i]? = some o) (hy : l[i + 1]? = none) : l.find? (fun y => decide (o < y)) = none := by
  refine find_none o l ?_
  have := Pan.pw_take h hx
  rwa [List.take_of_length_le (by have := List.getElem?_eq_none_iff.1 hy; omega)] at this
theorem natsV_get {l : List Nat} {i x : Nat} (h : l[i]? = some x) : (natsV l)[i]? = some (.int .i64 (x : Nat)) := by simp [h]
theorem showL_get {i o : Nat} (hi : i < cells.length) (h1 : o ≤ i) (h2 : i < o + wd) : (bytesV (showL cells wd o))[i - o]? = some (.int .u8 (cells.getD i 0)) := by
  unfold showL
  rw [List.getElem?_map, List.getElem?_append_left (by simp; omega), List.getElem?_take, if_pos (by omega), List.getElem?_drop, show o + (i - o) = i by omega, List.getElem?_eq_getElem hi]
  simp [List.getD_eq_getElem?_getD, hi]
attribute [local irreducible] World.setCell World.setCells World.alloc World.drew World.drewN Calls sat cel own blk old wpQuiet wpList
theorem walks_guard (a : Option Addr) (n c : Nat) (v : Value) (h : 500 < n) (hc : n ≤ maxLen) (hs : sat W H w) : Calls Try.prog 4 #[.slice a n c, v] w fun e w' => e = .returned (.bool true) ∧ sat W H w' := by
  unfold maxLen at hc
  go_enter Try.func4, Try.ntmps4
  go_wp2_with (go_at_call 8; refine (known8 hs).mono ?_; clear hs; rintro e w ⟨rfl, hs⟩)
  go_ret
  exact ⟨rfl, hs⟩
theorem walks_no (a : Option Addr) (n c : Nat) (x : Int) (hg : n ≤ 500) (hx : x < 1 ∨ 80 < x) (hs : sat W H w) : Calls Try.prog 4 #[.slice a n c, .int .i64 x] w fun e w' => e = .returned (.bool true) ∧ sat W H w' := by
  go_enter Try.func4, Try.ntmps4
  go_wp2_with (first | (go_at_call 8; refine (known8 hs).mono ?_; clear hs; rintro e w ⟨rfl, hs⟩) | (go_at_call 10; refine (new_no hx hs).mono ?_; clear hs; rintro e w ⟨rfl, hs⟩))
  go_ret
  exact ⟨rfl, hs⟩
set_option maxRecDepth 8000 in
set_option maxHeartbeats 4000000 in
theorem walks_walk (w0 : World) (hw : 0 < wd) (hw2 : wd ≤ 80) (hr : RdC [old w0] a n c cells) (hg : n ≤ 500) (hn : n = cells.length) (hs : sat W (old w0 :: H) w) :
    Calls Try.prog 4 #[.slice a n c, .int .i64 (wd : Nat)] w fun e w' => e = .returned (.bool true) ∧ sat W (old w0 :: H) w' := by
  have HR := Lib.hid hr
  have HN := Lib.hid hn
  have hl : cells.length ≤ 1000 := by omega
  have hpw := rise cells wd hw
  have hz := Pan.begs_zero (cells := cells) (hw := hw)
  have hps := Pan.begs_pos (cells := cells) (hw := hw)
  have hle : ∀ i x, (Pan.begs cells wd hw 0)[i]? = some x → x ≤ 500 := fun i x hx => by
    rcases Pan.begs_mem cells.length 0 (by omega) x (List.mem_of_getElem? hx) with h | h <;> omega
  have hlo : ∀ m, lastOf cells wd hw m = Pan.lastB m 0 (Pan.begs cells wd hw 0) := fun _ => rfl
  have hco : ∀ i, i < n → (lastOf cells wd hw (i : Nat) ≤ i ∧ i < lastOf cells wd hw (i : Nat) + wd) := fun i hi => (Pan.lastB_cover (by omega) cells.length 0 0 (by omega) (by omega)).2
  have hself : ∀ i : Nat, i < n → lastOf cells wd hw (lastOf cells wd hw (i : Nat) : Nat) = lastOf cells wd hw (i : Nat) := fun i hi => by
    rcases Pan.lastB_mem (most := (i : Int)) (Pan.begs cells wd hw 0) 0 with h | h
    · rw [hlo (i : Nat), h]
      exact Pan.lastB_self hpw hz
    · obtain ⟨j, hj⟩ := List.mem_iff_getElem?.1 h
      exact Pan.lastB_self hpw hj
  clear hr hn
  obtain ⟨B, hB⟩ : ∃ B, Pan.begs cells wd hw 0 = B := ⟨_, rfl⟩
  rw [hB] at hpw hz hps hle
  have HB := Lib.hid hB
  have HPW := Lib.hid hpw
  have HZ := Lib.hid hz
  have HLE := Lib.hid hle
  have HLO := Lib.hid hlo
  have HCO := Lib.hid hco
  have HSE := Lib.hid hself
  obtain ⟨m, hm⟩ : ∃ m, B.length = m := ⟨_, rfl⟩
  have hmp : 0 < m := by omega
  have hm2 : m ≤ 1000000 := by rw [← hm, ← hB]; exact begs_le hl
  have HM := Lib.hid hm
  clear hpw hz hle hlo hco hself hB hm hps
  go_enter Try.func4, Try.ntmps4
  go_upto_block 0 with (first | (go_at_call 10; refine (new10 (wd := wd) hw hw2 hs).mono ?_; clear hs; rintro e w ⟨b, rfl, hs⟩) | (go_at_call 9; refine (begins_t (Hc := [old w0]) (wd := wd) rfl hw hw2 HR.out hl HB.out hs.swap).mono ?_; clear hs; rintro e w ⟨a5, c5, rfl, hs⟩; rw [HM.out] at hs ⊢))
  replace hs : sat W (cel b 36 (winL wd 0) :: old w0 :: own 3 1 (.slice a5 m c5) m (natsV B) :: H) w := by
    simp only [List.cons_append, List.nil_append] at hs
    (refine sat_from ?_ hs; repeat (first | exact Sub.refl _ | exact Sub.nil _ | refine Sub.c0 ?_ | refine Sub.c1 ?_ | refine Sub.c2 ?_ | refine Sub.c3 ?_ | refine Sub.c4 ?_ | refine Sub.c5 ?_ | refine Sub.c6 ?_ | refine Sub.c7 ?_ | refine Sub.c8 ?_ | refine Sub.c9 ?_ | refine Sub.skip ?_))
  go_cut [8, 40] from 41 to 61 (fun _ _ wx => ∃ o, Hid (B[m - 1]? = some o) ∧ sat W (cel b 36 (winL wd o) :: old w0 :: own 3 1 (.slice a5 m c5) m (natsV B) :: H) wx)
  case first =>
    go_wp2_with fail
    go_loopw [8, 40] (fun _ i wr => ∃ i' o : Nat, i' ≤ m ∧ i = .int .i64 (i' : Int) ∧ Hid (B[i']? = some o ∨ i' = m ∧ B[m - 1]? = some o) ∧ sat W (cel b 36 (winL wd o) :: old w0 :: own 3 1 (.slice a5 m c5) m (natsV B) :: H) wr) (fun _ i _ => ((m : Int) - intOf i).toNat)
    case atStart => exact ⟨0, 0, Nat.zero_le _, rfl, Lib.hid (.inl HZ.out), hs⟩
    case round =>
      clear hs
      obtain ⟨i, o, hi, rfl, HO, hs⟩ := hrel
      by_cases him : i < m
      · have hbo : B[i]? = some o := by
          rcases HO.out with h | ⟨h, _⟩
          · exact h
          · omega
        have HX := Lib.hid (natsV_get hbo)
        have HF := Lib.hid (show lastOf cells wd hw (o : Int) = o by rw [HLO.out, HB.out]; exact Pan.lastB_self HPW.out hbo)
        obtain ⟨g5, c6, e5⟩ := hs.b2.own_some hmp
        cases e5
        cases hy : B[i + 1]? with
        | some y =>
          have hlt : i + 1 < m := by have := (List.getElem?_eq_some_iff.1 hy).1; have := HM.out; omega
          have hlt2 : (i : Int) + 1 < (m : Int) := by omega
          have HY := Lib.hid (show (Pan.begs cells wd hw 0).find? (fun y => decide (o < y)) = some y by rw [HB.out]; exact find_next HPW.out hbo hy)
          have HO2 : Hid (B[i + 1]? = some y ∨ i + 1 = m ∧ B[m - 1]? = some y) := Lib.hid (.inl hy)
          clear hbo hy
          go_upto_region 10 with fail
          refine region_mix [([0, 2, 3, 4, 5], [1]), ([6, 7, 8, 9, 11, 12, 13, 14, 15], [10])] [16, 17] hs (fun _ h => by (show sat W [own 3 1 (.slice (some ⟨g5, 0, none⟩) m c5) m (natsV B)] _; (refine sat_from ?_ h; repeat (first | exact Sub.refl _ | exact Sub.nil _ | refine Sub.c0 ?_ | refine Sub.c1 ?_ | refine Sub.c2 ?_ | refine Sub.c3 ?_ | refine Sub.c4 ?_ | refine Sub.c5 ?_ | refine Sub.c6 ?_ | refine Sub.c7 ?_ | refine Sub.c8 ?_ | refine Sub.c9 ?_ | refine Sub.skip ?_)))) (by kernel_rfl) (by kernel_rfl) (fun _ _ _ _ _ h => h) ?_
          simp only [segs, nths, nth, List.append_nil, List.nil_append, List.cons_append, List.map_cons, List.map_nil]
          refine seg_reads (fun _ h => by (show sat W [own 3 1 (.slice (some ⟨g5, 0, none⟩) m c5) m (natsV B)] _; (refine sat_from ?_ h; repeat (first | exact Sub.refl _ | exact Sub.nil _ | refine Sub.c0 ?_ | refine Sub.c1 ?_ | refine Sub.c2 ?_ | refine Sub.c3 ?_ | refine Sub.c4 ?_ | refine Sub.c5 ?_ | refine Sub.c6 ?_ | refine Sub.c7 ?_ | refine Sub.c8 ?_ | refine Sub.c9 ?_ | refine Sub.skip ?_)))) ?_; intro X f hne hf hcl; (try simp only [Act.put, List.setIfInBounds_toArray, List.set_cons_succ, List.set_cons_zero]); (repeat (first | ((with_reducible apply ldoq (fun x => (hf x).b0)); exact rfl; exact rfl; exact rfl; exact HX.out; kernel_rfl; (try simp only [Act.put, List.setIfInBounds_toArray, List.set_cons_succ, List.set_cons_zero])) | go_big_quiet_step (fail))); refine wpQuiet_nil ?_; clear hcl hf hne hs f X; intro w hs
          go_wp2_with (first | (go_at_call 11; refine (offset11 hw hs).mono ?_; clear hs; rintro e w ⟨rfl, hs⟩) | (go_at_call 12; refine (right_yes (Hc := [old w0]) hw hw2 HR.out HF.out HY.out hs).mono ?_; clear hs; rintro e w ⟨rfl, hs⟩) | ((with_reducible refine isl ?_); first | ((with_reducible refine wrap hs ?_); clear hs; intro w hs) | ((with_reducible refine wrapn hs ?_); clear hs; intro w hs) | ((with_reducible refine wrapd hs ?_); clear hs; intro w hs)))
          (first | (refine seg_on hs (fun _ h => h) (fun _ h => by (show sat W [own 3 1 (.slice (some ⟨g5, 0, none⟩) m c5) m (natsV B)] _; (refine sat_from ?_ h; repeat (first | exact Sub.refl _ | exact Sub.nil _ | refine Sub.c0 ?_ | refine Sub.c1 ?_ | refine Sub.c2 ?_ | refine Sub.c3 ?_ | refine Sub.c4 ?_ | refine Sub.c5 ?_ | refine Sub.c6 ?_ | refine Sub.c7 ?_ | refine Sub.c8 ?_ | refine Sub.c9 ?_ | refine Sub.skip ?_)))) ?_; clear hs; intro hs) | (refine seg_on hs.made (fun _ h => h) (fun _ h => by (show sat W [own 3 1 (.slice (some ⟨g5, 0, none⟩) m c5) m (natsV B)] _; (refine sat_from ?_ h; repeat (first | exact Sub.refl _ | exact Sub.nil _ | refine Sub.c0 ?_ | refine Sub.c1 ?_ | refine Sub.c2 ?_ | refine Sub.c3 ?_ | refine Sub.c4 ?_ | refine Sub.c5 ?_ | refine Sub.c6 ?_ | refine Sub.c7 ?_ | refine Sub.c8 ?_ | refine Sub.c9 ?_ | refine Sub.skip ?_)))) ?_; clear hs; intro hs) | (refine seg_on hs.drew (fun _ h => h) (fun _ h => by (show sat W [own 3 1 (.slice (some ⟨g5, 0, none⟩) m c5) m (natsV B)] _; (refine sat_from ?_ h; repeat (first | exact Sub.refl _ | exact Sub.nil _ | refine Sub.c0 ?_ | refine Sub.c1 ?_ | refine Sub.c2 ?_ | refine Sub.c3 ?_ | refine Sub.c4 ?_ | refine Sub.c5 ?_ | refine Sub.c6 ?_ | refine Sub.c7 ?_ | refine Sub.c8 ?_ | refine Sub.c9 ?_ | refine Sub.skip ?_)))) ?_; clear hs; intro hs) | (refine seg_on hs.drew.made (fun _ h => h) (fun _ h => by (show sat W [own 3 1 (.slice (some ⟨g5, 0, none⟩) m c5) m (natsV B)] _; (refine sat_from ?_ h; repeat (first | exact Sub.refl _ | exact Sub.nil _ | refine Sub.c0 ?_ | refine Sub.c1 ?_ | refine Sub.c2 ?_ | refine Sub.c3 ?_ | refine Sub.c4 ?_ | refine Sub.c5 ?_ | refine Sub.c6 ?_ | refine Sub.c7 ?_ | refine Sub.c8 ?_ | refine Sub.c9 ?_ | refine Sub.skip ?_)))) ?_; clear hs; intro hs) | (refine seg_on (hs.drewN _) (fun _ h => h) (fun _ h => by (show sat W [own 3 1 (.slice (some ⟨g5, 0, none⟩) m c5) m (natsV B)] _; (refine sat_from ?_ h; repeat (first | exact Sub.refl _ | exact Sub.nil _ | refine Sub.c0 ?_ | refine Sub.c1 ?_ | refine Sub.c2 ?_ | refine Sub.c3 ?_ | refine Sub.c4 ?_ | refine Sub.c5 ?_ | refine Sub.c6 ?_ | refine Sub.c7 ?_ | refine Sub.c8 ?_ | refine Sub.c9 ?_ | refine Sub.skip ?_)))) ?_; clear hs; intro hs))
          refine seg_reads (fun _ h => by (show sat W [own 3 1 (.slice (some ⟨g5, 0, none⟩) m c5) m (natsV B)] _; (refine sat_from ?_ h; repeat (first | exact Sub.refl _ | exact Sub.nil _ | refine Sub.c0 ?_ | refine Sub.c1 ?_ | refine Sub.c2 ?_ | refine Sub.c3 ?_ | refine Sub.c4 ?_ | refine Sub.c5 ?_ | refine Sub.c6 ?_ | refine Sub.c7 ?_ | refine Sub.c8 ?_ | refine Sub.c9 ?_ | refine Sub.skip ?_)))) ?_; intro X f hne hf hcl; (try simp only [Act.put, List.setIfInBounds_toArray, List.set_cons_succ, List.set_cons_zero]); (repeat (first | ((with_reducible apply ldoq (fun x => (hf x).b0)); exact rfl; exact rfl; exact rfl; exact HX.out; kernel_rfl; (try simp only [Act.put, List.setIfInBounds_toArray, List.set_cons_succ, List.set_cons_zero])) | go_big_quiet_step (fail))); refine wpQuiet_nil ?_; clear hcl hf hne hs f X; intro w hs
          go_wp2_with (first | (go_at_call 11; refine (offset11 hw hs).mono ?_; clear hs; rintro e w ⟨rfl, hs⟩) | (go_at_call 12; refine (right_yes (Hc := [old w0]) hw hw2 HR.out HF.out HY.out hs).mono ?_; clear hs; rintro e w ⟨rfl, hs⟩) | ((with_reducible refine isl ?_); first | ((with_reducible refine wrap hs ?_); clear hs; intro w hs) | ((with_reducible refine wrapn hs ?_); clear hs; intro w hs) | ((with_reducible refine wrapd hs ?_); clear hs; intro w hs)))
          (first | (refine seg_on hs (fun _ h => h) (fun _ h => by (show sat W [own 3 1 (.slice (some ⟨g5, 0, none⟩) m c5) m (natsV B)] _; (refine sat_from ?_ h; repeat (first | exact Sub.refl _ | exact Sub.nil _ | refine Sub.c0 ?_ | refine Sub.c1 ?_ | refine Sub.c2 ?_ | refine Sub.c3 ?_ | refine Sub.c4 ?_ | refine Sub.c5 ?_ | refine Sub.c6 ?_ | refine Sub.c7 ?_ | refine Sub.c8 ?_ | refine Sub.c9 ?_ | refine Sub.skip ?_)))) ?_; clear hs; intro hs) | (refine seg_on hs.made (fun _ h => h) (fun _ h => by (show sat W [own 3 1 (.slice (some ⟨g5, 0, none⟩) m c5) m (natsV B)] _; (refine sat_from ?_ h; repeat (first | exact Sub.refl _ | exact Sub.nil _ | refine Sub.c0 ?_ | refine Sub.c1 ?_ | refine Sub.c2 ?_ | refine Sub.c3 ?_ | refine Sub.c4 ?_ | refine Sub.c5 ?_ | refine Sub.c6 ?_ | refine Sub.c7 ?_ | refine Sub.c8 ?_ | refine Sub.c9 ?_ | refine Sub.skip ?_)))) ?_; clear hs; intro hs) | (refine seg_on hs.drew (fun _ h => h) (fun _ h => by (show sat W [own 3 1 (.slice (some ⟨g5, 0, none⟩) m c5) m (natsV B)] _; (refine sat_from ?_ h; repeat (first | exact Sub.refl _ | exact Sub.nil _ | refine Sub.c0 ?_ | refine Sub.c1 ?_ | refine Sub.c2 ?_ | refine Sub.c3 ?_ | refine Sub.c4 ?_ | refine Sub.c5 ?_ | refine Sub.c6 ?_ | refine Sub.c7 ?_ | refine Sub.c8 ?_ | refine Sub.c9 ?_ | refine Sub.skip ?_)))) ?_; clear hs; intro hs) | (refine seg_on hs.drew.made (fun _ h => h) (fun _ h => by (show sat W [own 3 1 (.slice (some ⟨g5, 0, none⟩) m c5) m (natsV B)] _; (refine sat_from ?_ h; repeat (first | exact Sub.refl _ | exact Sub.nil _ | refine Sub.c0 ?_ | refine Sub.c1 ?_ | refine Sub.c2 ?_ | refine Sub.c3 ?_ | refine Sub.c4 ?_ | refine Sub.c5 ?_ | refine Sub.c6 ?_ | refine Sub.c7 ?_ | refine Sub.c8 ?_ | refine Sub.c9 ?_ | refine Sub.skip ?_)))) ?_; clear hs; intro hs) | (refine seg_on (hs.drewN _) (fun _ h => h) (fun _ h => by (show sat W [own 3 1 (.slice (some ⟨g5, 0, none⟩) m c5) m (natsV B)] _; (refine sat_from ?_ h; repeat (first | exact Sub.refl _ | exact Sub.nil _ | refine Sub.c0 ?_ | refine Sub.c1 ?_ | refine Sub.c2 ?_ | refine Sub.c3 ?_ | refine Sub.c4 ?_ | refine Sub.c5 ?_ | refine Sub.c6 ?_ | refine Sub.c7 ?_ | refine Sub.c8 ?_ | refine Sub.c9 ?_ | refine Sub.skip ?_)))) ?_; clear hs; intro hs))
          refine seg_last (fun _ h => by (show sat W [own 3 1 (.slice (some ⟨g5, 0, none⟩) m c5) m (natsV B)] _; (refine sat_from ?_ h; repeat (first | exact Sub.refl _ | exact Sub.nil _ | refine Sub.c0 ?_ | refine Sub.c1 ?_ | refine Sub.c2 ?_ | refine Sub.c3 ?_ | refine Sub.c4 ?_ | refine Sub.c5 ?_ | refine Sub.c6 ?_ | refine Sub.c7 ?_ | refine Sub.c8 ?_ | refine Sub.c9 ?_ | refine Sub.skip ?_)))) ?_; intro X f hne hf hcl; (try simp only [Act.put, List.setIfInBounds_toArray, List.set_cons_succ, List.set_cons_zero]); (repeat (first | ((with_reducible apply ldoq (fun x => (hf x).b0)); exact rfl; exact rfl; exact rfl; exact HX.out; kernel_rfl; (try simp only [Act.put, List.setIfInBounds_toArray, List.set_cons_succ, List.set_cons_zero])) | go_big_quiet_step (fail))); refine wpQuiet_nil ?_; clear hcl hf hne hs f X; intro w hs
          go_wp2_with fail
          go_roundw
          case rel => exact ⟨i + 1, y, by omega, by go_num, HO2, by (refine sat_from ?_ hs; repeat (first | exact Sub.refl _ | exact Sub.nil _ | refine Sub.c0 ?_ | refine Sub.c1 ?_ | refine Sub.c2 ?_ | refine Sub.c3 ?_ | refine Sub.c4 ?_ | refine Sub.c5 ?_ | refine Sub.c6 ?_ | refine Sub.c7 ?_ | refine Sub.c8 ?_ | refine Sub.c9 ?_ | refine Sub.skip ?_))⟩
          case measure => simp [intOf]; omega
        | none =>
          have hlt : i + 1 = m := by have := List.getElem?_eq_none_iff.1 hy; have := HM.out; omega
          have hlt2 : (m : Int) ≤ (i : Int) + 1 := by omega
          have HY := Lib.hid (show (Pan.begs cells wd hw 0).find? (fun y => decide (o < y)) = none by rw [HB.out]; exact find_last HPW.out hbo hy)
          have HO2 : Hid (B[i + 1]? = some o ∨ i + 1 = m ∧ B[m - 1]? = some o) := Lib.hid (.inr ⟨hlt, by rw [show m - 1 = i by omega]; exact hbo⟩)
          clear hbo hy hlt
          go_upto_region 10 with fail
          refine region_mix [([0, 2, 3, 4, 5], [1]), ([6, 7, 8, 9, 11, 12, 13, 14, 15], [10])] [16, 17] hs (fun _ h => by (show sat W [own 3 1 (.slice (some ⟨g5, 0, none⟩) m c5) m (natsV B)] _; (refine sat_from ?_ h; repeat (first | exact Sub.refl _ | exact Sub.nil _ | refine Sub.c0 ?_ | refine Sub.c1 ?_ | refine Sub.c2 ?_ | refine Sub.c3 ?_ | refine Sub.c4 ?_ | refine Sub.c5 ?_ | refine Sub.c6 ?_ | refine Sub.c7 ?_ | refine Sub.c8 ?_ | refine Sub.c9 ?_ | refine Sub.skip ?_)))) (by kernel_rfl) (by kernel_rfl) (fun _ _ _ _ _ h => h) ?_
          simp only [segs, nths, nth, List.append_nil, List.nil_append, List.cons_append, List.map_cons, List.map_nil]
          refine seg_reads (fun _ h => by (show sat W [own 3 1 (.slice (some ⟨g5, 0, none⟩) m c5) m (natsV B)] _; (refine sat_from ?_ h; repeat (first | exact Sub.refl _ | exact Sub.nil _ | refine Sub.c0 ?_ | refine Sub.c1 ?_ | refine Sub.c2 ?_ | refine Sub.c3 ?_ | refine Sub.c4 ?_ | refine Sub.c5 ?_ | refine Sub.c6 ?_ | refine Sub.c7 ?_ | refine Sub.c8 ?_ | refine Sub.c9 ?_ | refine Sub.skip ?_)))) ?_; intro X f hne hf hcl; (try simp only [Act.put, List.setIfInBounds_toArray, List.set_cons_succ, List.set_cons_zero]); (repeat (first | ((with_reducible apply ldoq (fun x => (hf x).b0)); exact rfl; exact rfl; exact rfl; exact HX.out; kernel_rfl; (try simp only [Act.put, List.setIfInBounds_toArray, List.set_cons_succ, List.set_cons_zero])) | go_big_quiet_step (fail))); refine wpQuiet_nil ?_; clear hcl hf hne hs f X; intro w hs
          go_wp2_with (first | (go_at_call 11; refine (offset11 hw hs).mono ?_; clear hs; rintro e w ⟨rfl, hs⟩) | (go_at_call 12; refine (right_no (Hc := [old w0]) hw hw2 HR.out HF.out HY.out hs).mono ?_; clear hs; rintro e w ⟨rfl, hs⟩) | ((with_reducible refine isl ?_); first | ((with_reducible refine wrap hs ?_); clear hs; intro w hs) | ((with_reducible refine wrapn hs ?_); clear hs; intro w hs) | ((with_reducible refine wrapd hs ?_); clear hs; intro w hs)))
          (first | (refine seg_on hs (fun _ h => h) (fun _ h => by (show sat W [own 3 1 (.slice (some ⟨g5, 0, none⟩) m c5) m (natsV B)] _; (refine sat_from ?_ h; repeat (first | exact Sub.refl _ | exact Sub.nil _ | refine Sub.c0 ?_ | refine Sub.c1 ?_ | refine Sub.c2 ?_ | refine Sub.c3 ?_ | refine Sub.c4 ?_ | refine Sub.c5 ?_ | refine Sub.c6 ?_ | refine Sub.c7 ?_ | refine Sub.c8 ?_ | refine Sub.c9 ?_ | refine Sub.skip ?_)))) ?_; clear hs; intro hs) | (refine seg_on hs.made (fun _ h => h) (fun _ h => by (show sat W [own 3 1 (.slice (some ⟨g5, 0, none⟩) m c5) m (natsV B)] _; (refine sat_from ?_ h; repeat (first | exact Sub.refl _ | exact Sub.nil _ | refine Sub.c0 ?_ | refine Sub.c1 ?_ | refine Sub.c2 ?_ | refine Sub.c3 ?_ | refine Sub.c4 ?_ | refine Sub.c5 ?_ | refine Sub.c6 ?_ | refine Sub.c7 ?_ | refine Sub.c8 ?_ | refine Sub.c9 ?_ | refine Sub.skip ?_)))) ?_; clear hs; intro hs) | (refine seg_on hs.drew (fun _ h => h) (fun _ h => by (show sat W [own 3 1 (.slice (some ⟨g5, 0, none⟩) m c5) m (natsV B)] _; (refine sat_from ?_ h; repeat (first | exact Sub.refl _ | exact Sub.nil _ | refine Sub.c0 ?_ | refine Sub.c1 ?_ | refine Sub.c2 ?_ | refine Sub.c3 ?_ | refine Sub.c4 ?_ | refine Sub.c5 ?_ | refine Sub.c6 ?_ | refine Sub.c7 ?_ | refine Sub.c8 ?_ | refine Sub.c9 ?_ | refine Sub.skip ?_)))) ?_; clear hs; intro hs) | (refine seg_on hs.drew.made (fun _ h => h) (fun _ h => by (show sat W [own 3 1 (.slice (some ⟨g5, 0, none⟩) m c5) m (natsV B)] _; (refine sat_from ?_ h; repeat (first | exact Sub.refl _ | exact Sub.nil _ | refine Sub.c0 ?_ | refine Sub.c1 ?_ | refine Sub.c2 ?_ | refine Sub.c3 ?_ | refine Sub.c4 ?_ | refine Sub.c5 ?_ | refine Sub.c6 ?_ | refine Sub.c7 ?_ | refine Sub.c8 ?_ | refine Sub.c9 ?_ | refine Sub.skip ?_)))) ?_; clear hs; intro hs) | (refine seg_on (hs.drewN _) (fun _ h => h) (fun _ h => by (show sat W [own 3 1 (.slice (some ⟨g5, 0, none⟩) m c5) m (natsV B)] _; (refine sat_from ?_ h; repeat (first | exact Sub.refl _ | exact Sub.nil _ | refine Sub.c0 ?_ | refine Sub.c1 ?_ | refine Sub.c2 ?_ | refine Sub.c3 ?_ | refine Sub.c4 ?_ | refine Sub.c5 ?_ | refine Sub.c6 ?_ | refine Sub.c7 ?_ | refine Sub.c8 ?_ | refine Sub.c9 ?_ | refine Sub.skip ?_)))) ?_; clear hs; intro hs))
          refine seg_reads (fun _ h => by (show sat W [own 3 1 (.slice (some ⟨g5, 0, none⟩) m c5) m (natsV B)] _; (refine sat_from ?_ h; repeat (first | exact Sub.refl _ | exact Sub.nil _ | refine Sub.c0 ?_ | refine Sub.c1 ?_ | refine Sub.c2 ?_ | refine Sub.c3 ?_ | refine Sub.c4 ?_ | refine Sub.c5 ?_ | refine Sub.c6 ?_ | refine Sub.c7 ?_ | refine Sub.c8 ?_ | refine Sub.c9 ?_ | refine Sub.skip ?_)))) ?_; intro X f hne hf hcl; (try simp only [Act.put, List.setIfInBounds_toArray, List.set_cons_succ, List.set_cons_zero]); (repeat (first | ((with_reducible apply ldoq (fun x => (hf x).b0)); exact rfl; exact rfl; exact rfl; exact HX.out; kernel_rfl; (try simp only [Act.put, List.setIfInBounds_toArray, List.set_cons_succ, List.set_cons_zero])) | go_big_quiet_step (fail))); refine wpQuiet_nil ?_; clear hcl hf hne hs f X; intro w hs
          go_wp2_with (first | (go_at_call 11; refine (offset11 hw hs).mono ?_; clear hs; rintro e w ⟨rfl, hs⟩) | (go_at_call 12; refine (right_no (Hc := [old w0]) hw hw2 HR.out HF.out HY.out hs).mono ?_; clear hs; rintro e w ⟨rfl, hs⟩) | ((with_reducible refine isl ?_); first | ((with_reducible refine wrap hs ?_); clear hs; intro w hs) | ((with_reducible refine wrapn hs ?_); clear hs; intro w hs) | ((with_reducible refine wrapd hs ?_); clear hs; intro w hs)))
          (first | (refine seg_on hs (fun _ h => h) (fun _ h => by (show sat W [own 3 1 (.slice (some ⟨g5, 0, none⟩) m c5) m (natsV B)] _; (refine sat_from ?_ h; repeat (first | exact Sub.refl _ | exact Sub.nil _ | refine Sub.c0 ?_ | refine Sub.c1 ?_ | refine Sub.c2 ?_ | refine Sub.c3 ?_ | refine Sub.c4 ?_ | refine Sub.c5 ?_ | refine Sub.c6 ?_ | refine Sub.c7 ?_ | refine Sub.c8 ?_ | refine Sub.c9 ?_ | refine Sub.skip ?_)))) ?_; clear hs; intro hs) | (refine seg_on hs.made (fun _ h => h) (fun _ h => by (show sat W [own 3 1 (.slice (some ⟨g5, 0, none⟩) m c5) m (natsV B)] _; (refine sat_from ?_ h; repeat (first | exact Sub.refl _ | exact Sub.nil _ | refine Sub.c0 ?_ | refine Sub.c1 ?_ | refine Sub.c2 ?_ | refine Sub.c3 ?_ | refine Sub.c4 ?_ | refine Sub.c5 ?_ | refine Sub.c6 ?_ | refine Sub.c7 ?_ | refine Sub.c8 ?_ | refine Sub.c9 ?_ | refine Sub.skip ?_)))) ?_; clear hs; intro hs) | (refine seg_on hs.drew (fun _ h => h) (fun _ h => by (show sat W [own 3 1 (.slice (some ⟨g5, 0, none⟩) m c5) m (natsV B)] _; (refine sat_from ?_ h; repeat (first | exact Sub.refl _ | exact Sub.nil _ | refine Sub.c0 ?_ | refine Sub.c1 ?_ | refine Sub.c2 ?_ | refine Sub.c3 ?_ | refine Sub.c4 ?_ | refine Sub.c5 ?_ | refine Sub.c6 ?_ | refine Sub.c7 ?_ | refine Sub.c8 ?_ | refine Sub.c9 ?_ | refine Sub.skip ?_)))) ?_; clear hs; intro hs) | (refine seg_on hs.drew.made (fun _ h => h) (fun _ h => by (show sat W [own 3 1 (.slice (some ⟨g5, 0, none⟩) m c5) m (natsV B)] _; (refine sat_from ?_ h; repeat (first | exact Sub.refl _ | exact Sub.nil _ | refine Sub.c0 ?_ | refine Sub.c1 ?_ | refine Sub.c2 ?_ | refine Sub.c3 ?_ | refine Sub.c4 ?_ | refine Sub.c5 ?_ | refine Sub.c6 ?_ | refine Sub.c7 ?_ | refine Sub.c8 ?_ | refine Sub.c9 ?_ | refine Sub.skip ?_)))) ?_; clear hs; intro hs) | (refine seg_on (hs.drewN _) (fun _ h => h) (fun _ h => by (show sat W [own 3 1 (.slice (some ⟨g5, 0, none⟩) m c5) m (natsV B)] _; (refine sat_from ?_ h; repeat (first | exact Sub.refl _ | exact Sub.nil _ | refine Sub.c0 ?_ | refine Sub.c1 ?_ | refine Sub.c2 ?_ | refine Sub.c3 ?_ | refine Sub.c4 ?_ | refine Sub.c5 ?_ | refine Sub.c6 ?_ | refine Sub.c7 ?_ | refine Sub.c8 ?_ | refine Sub.c9 ?_ | refine Sub.skip ?_)))) ?_; clear hs; intro hs))
          refine seg_last (fun _ h => by (show sat W [own 3 1 (.slice (some ⟨g5, 0, none⟩) m c5) m (natsV B)] _; (refine sat_from ?_ h; repeat (first | exact Sub.refl _ | exact Sub.nil _ | refine Sub.c0 ?_ | refine Sub.c1 ?_ | refine Sub.c2 ?_ | refine Sub.c3 ?_ | refine Sub.c4 ?_ | refine Sub.c5 ?_ | refine Sub.c6 ?_ | refine Sub.c7 ?_ | refine Sub.c8 ?_ | refine Sub.c9 ?_ | refine Sub.skip ?_)))) ?_; intro X f hne hf hcl; (try simp only [Act.put, List.setIfInBounds_toArray, List.set_cons_succ, List.set_cons_zero]); (repeat (first | ((with_reducible apply ldoq (fun x => (hf x).b0)); exact rfl; exact rfl; exact rfl; exact HX.out; kernel_rfl; (try simp only [Act.put, List.setIfInBounds_toArray, List.set_cons_succ, List.set_cons_zero])) | go_big_quiet_step (fail))); refine wpQuiet_nil ?_; clear hcl hf hne hs f X; intro w hs
          go_wp2_with fail
          go_roundw
          case rel => exact ⟨i + 1, o, by omega, by go_num, HO2, by (refine sat_from ?_ hs; repeat (first | exact Sub.refl _ | exact Sub.nil _ | refine Sub.c0 ?_ | refine Sub.c1 ?_ | refine Sub.c2 ?_ | refine Sub.c3 ?_ | refine Sub.c4 ?_ | refine Sub.c5 ?_ | refine Sub.c6 ?_ | refine Sub.c7 ?_ | refine Sub.c8 ?_ | refine Sub.c9 ?_ | refine Sub.skip ?_))⟩
          case measure => simp [intOf]; omega
      · have him : i = m := by omega
        subst him
        have hbo : B[i - 1]? = some o := by
          rcases HO.out with h | ⟨_, h⟩
          · have := (List.getElem?_eq_some_iff.1 h).1
            have := HM.out
            omega
          · exact h
        have HBO := Lib.hid hbo
        clear hbo
        go_wp2_with fail
        go_meet
        case rel => exact ⟨o, HBO, hs⟩
  case rest =>
    clear hs
    obtain ⟨o, HBO, hs⟩ := hcut
    go_upto_block 2 with fail
    go_cut [9] from 65 to 83 (fun _ wx => ∃ o, sat W (cel b 36 (winL wd o) :: old w0 :: own 3 1 (.slice a5 m c5) m (natsV B) :: H) wx)
    case first =>
      go_wp2_with fail
      go_loopw [9] (fun i wr => ∃ k o : Nat, k ≤ m ∧ i = .int .i64 ((k : Int) - 1) ∧ Hid ((0 < k → B[k - 1]? = some o)) ∧ sat W (cel b 36 (winL wd o) :: old w0 :: own 3 1 (.slice a5 m c5) m (natsV B) :: H) wr) (fun i _ => (intOf i + 1).toNat)
      case atStart => exact ⟨m, o, Nat.le_refl _, by go_num, Lib.hid (fun _ => HBO.out), hs⟩
      case round =>
        clear hs HBO
        obtain ⟨k, o, hk, rfl, HO, hs⟩ := hrel
        cases k with
        | zero =>
          go_wp2_with fail
          go_meet
          case rel => exact ⟨o, hs⟩
        | succ i =>
          have e1 : (((i + 1 : Nat) : Int) - 1) = (i : Int) := by omega
          simp only [e1]
          clear e1
          have hbo : B[i]? = some o := HO.out (by omega)
          have HX := Lib.hid (natsV_get hbo)
          have HF := Lib.hid (show lastOf cells wd hw (o : Int) = o by rw [HLO.out, HB.out]; exact Pan.lastB_self HPW.out hbo)
          obtain ⟨g5, c6, e5⟩ := hs.b2.own_some hmp
          cases e5
          have him : (i : Int) < (m : Int) := by omega
          have hi0 : (0 : Int) ≤ (i : Int) := by omega
          cases i with
          | zero =>
            obtain rfl : 0 = o := by have := HZ.out; rw [hbo] at this; cases this; rfl
            clear hbo
            go_upto_region 16 with fail
            refine region_mix [([0, 2, 3, 4, 5], [1]), ([6, 7, 8, 9, 11, 12], [10])] [13, 14] hs (fun _ h => by (show sat W [own 3 1 (.slice (some ⟨g5, 0, none⟩) m c5) m (natsV B)] _; (refine sat_from ?_ h; repeat (first | exact Sub.refl _ | exact Sub.nil _ | refine Sub.c0 ?_ | refine Sub.c1 ?_ | refine Sub.c2 ?_ | refine Sub.c3 ?_ | refine Sub.c4 ?_ | refine Sub.c5 ?_ | refine Sub.c6 ?_ | refine Sub.c7 ?_ | refine Sub.c8 ?_ | refine Sub.c9 ?_ | refine Sub.skip ?_)))) (by kernel_rfl) (by kernel_rfl) (fun _ _ _ _ _ h => h) ?_
            simp only [segs, nths, nth, List.append_nil, List.nil_append, List.cons_append, List.map_cons, List.map_nil]
            refine seg_reads (fun _ h => by (show sat W [own 3 1 (.slice (some ⟨g5, 0, none⟩) m c5) m (natsV B)] _; (refine sat_from ?_ h; repeat (first | exact Sub.refl _ | exact Sub.nil _ | refine Sub.c0 ?_ | refine Sub.c1 ?_ | refine Sub.c2 ?_ | refine Sub.c3 ?_ | refine Sub.c4 ?_ | refine Sub.c5 ?_ | refine Sub.c6 ?_ | refine Sub.c7 ?_ | refine Sub.c8 ?_ | refine Sub.c9 ?_ | refine Sub.skip ?_)))) ?_; intro X f hne hf hcl; (try simp only [Act.put, List.setIfInBounds_toArray, List.set_cons_succ, List.set_cons_zero]); (repeat (first | ((with_reducible apply ldoq (fun x => (hf x).b0)); exact rfl; exact rfl; exact rfl; exact HX.out; kernel_rfl; (try simp only [Act.put, List.setIfInBounds_toArray, List.set_cons_succ, List.set_cons_zero])) | go_big_quiet_step (fail))); refine wpQuiet_nil ?_; clear hcl hf hne hs f X; intro w hs
            go_wp2_with (first | (go_at_call 11; refine (offset11 hw hs).mono ?_; clear hs; rintro e w ⟨rfl, hs⟩) | (go_at_call 13; refine (left_no (Hc := [old w0]) hw hw2 HR.out HF.out hs).mono ?_; clear hs; rintro e w ⟨rfl, hs⟩) | ((with_reducible refine isl ?_); first | ((with_reducible refine wrap hs ?_); clear hs; intro w hs) | ((with_reducible refine wrapn hs ?_); clear hs; intro w hs) | ((with_reducible refine wrapd hs ?_); clear hs; intro w hs)))
            (first | (refine seg_on hs (fun _ h => h) (fun _ h => by (show sat W [own 3 1 (.slice (some ⟨g5, 0, none⟩) m c5) m (natsV B)] _; (refine sat_from ?_ h; repeat (first | exact Sub.refl _ | exact Sub.nil _ | refine Sub.c0 ?_ | refine Sub.c1 ?_ | refine Sub.c2 ?_ | refine Sub.c3 ?_ | refine Sub.c4 ?_ | refine Sub.c5 ?_ | refine Sub.c6 ?_ | refine Sub.c7 ?_ | refine Sub.c8 ?_ | refine Sub.c9 ?_ | refine Sub.skip ?_)))) ?_; clear hs; intro hs) | (refine seg_on hs.made (fun _ h => h) (fun _ h => by (show sat W [own 3 1 (.slice (some ⟨g5, 0, none⟩) m c5) m (natsV B)] _; (refine sat_from ?_ h; repeat (first | exact Sub.refl _ | exact Sub.nil _ | refine Sub.c0 ?_ | refine Sub.c1 ?_ | refine Sub.c2 ?_ | refine Sub.c3 ?_ | refine Sub.c4 ?_ | refine Sub.c5 ?_ | refine Sub.c6 ?_ | refine Sub.c7 ?_ | refine Sub.c8 ?_ | refine Sub.c9 ?_ | refine Sub.skip ?_)))) ?_; clear hs; intro hs) | (refine seg_on hs.drew (fun _ h => h) (fun _ h => by (show sat W [own 3 1 (.slice (some ⟨g5, 0, none⟩) m c5) m (natsV B)] _; (refine sat_from ?_ h; repeat (first | exact Sub.refl _ | exact Sub.nil _ | refine Sub.c0 ?_ | refine Sub.c1 ?_ | refine Sub.c2 ?_ | refine Sub.c3 ?_ | refine Sub.c4 ?_ | refine Sub.c5 ?_ | refine Sub.c6 ?_ | refine Sub.c7 ?_ | refine Sub.c8 ?_ | refine Sub.c9 ?_ | refine Sub.skip ?_)))) ?_; clear hs; intro hs) | (refine seg_on hs.drew.made (fun _ h => h) (fun _ h => by (show sat W [own 3 1 (.slice (some ⟨g5, 0, none⟩) m c5) m (natsV B)] _; (refine sat_from ?_ h; repeat (first | exact Sub.refl _ | exact Sub.nil _ | refine Sub.c0 ?_ | refine Sub.c1 ?_ | refine Sub.c2 ?_ | refine Sub.c3 ?_ | refine Sub.c4 ?_ | refine Sub.c5 ?_ | refine Sub.c6 ?_ | refine Sub.c7 ?_ | refine Sub.c8 ?_ | refine Sub.c9 ?_ | refine Sub.skip ?_)))) ?_; clear hs; intro hs) | (refine seg_on (hs.drewN _) (fun _ h => h) (fun _ h => by (show sat W [own 3 1 (.slice (some ⟨g5, 0, none⟩) m c5) m (natsV B)] _; (refine sat_from ?_ h; repeat (first | exact Sub.refl _ | exact Sub.nil _ | refine Sub.c0 ?_ | refine Sub.c1 ?_ | refine Sub.c2 ?_ | refine Sub.c3 ?_ | refine Sub.c4 ?_ | refine Sub.c5 ?_ | refine Sub.c6 ?_ | refine Sub.c7 ?_ | refine Sub.c8 ?_ | refine Sub.c9 ?_ | refine Sub.skip ?_)))) ?_; clear hs; intro hs))
            refine seg_reads (fun _ h => by (show sat W [own 3 1 (.slice (some ⟨g5, 0, none⟩) m c5) m (natsV B)] _; (refine sat_from ?_ h; repeat (first | exact Sub.refl _ | exact Sub.nil _ | refine Sub.c0 ?_ | refine Sub.c1 ?_ | refine Sub.c2 ?_ | refine Sub.c3 ?_ | refine Sub.c4 ?_ | refine Sub.c5 ?_ | refine Sub.c6 ?_ | refine Sub.c7 ?_ | refine Sub.c8 ?_ | refine Sub.c9 ?_ | refine Sub.skip ?_)))) ?_; intro X f hne hf hcl; (try simp only [Act.put, List.setIfInBounds_toArray, List.set_cons_succ, List.set_cons_zero]); (repeat (first | ((with_reducible apply ldoq (fun x => (hf x).b0)); exact rfl; exact rfl; exact rfl; exact HX.out; kernel_rfl; (try simp only [Act.put, List.setIfInBounds_toArray, List.set_cons_succ, List.set_cons_zero])) | go_big_quiet_step (fail))); refine wpQuiet_nil ?_; clear hcl hf hne hs f X; intro w hs
            go_wp2_with (first | (go_at_call 11; refine (offset11 hw hs).mono ?_; clear hs; rintro e w ⟨rfl, hs⟩) | (go_at_call 13; refine (left_no (Hc := [old w0]) hw hw2 HR.out HF.out hs).mono ?_; clear hs; rintro e w ⟨rfl, hs⟩) | ((with_reducible refine isl ?_); first | ((with_reducible refine wrap hs ?_); clear hs; intro w hs) | ((with_reducible refine wrapn hs ?_); clear hs; intro w hs) | ((with_reducible refine wrapd hs ?_); clear hs; intro w hs)))
            (first | (refine seg_on hs (fun _ h => h) (fun _ h => by (show sat W [own 3 1 (.slice (some ⟨g5, 0, none⟩) m c5) m (natsV B)] _; (refine sat_from ?_ h; repeat (first | exact Sub.refl _ | exact Sub.nil _ | refine Sub.c0 ?_ | refine Sub.c1 ?_ | refine Sub.c2 ?_ | refine Sub.c3 ?_ | refine Sub.c4 ?_ | refine Sub.c5 ?_ | refine Sub.c6 ?_ | refine Sub.c7 ?_ | refine Sub.c8 ?_ | refine Sub.c9 ?_ | refine Sub.skip ?_)))) ?_; clear hs; intro hs) | (refine seg_on hs.made (fun _ h => h) (fun _ h => by (show sat W [own 3 1 (.slice (some ⟨g5, 0, none⟩) m c5) m (natsV B)] _; (refine sat_from ?_ h; repeat (first | exact Sub.refl _ | exact Sub.nil _ | refine Sub.c0 ?_ | refine Sub.c1 ?_ | refine Sub.c2 ?_ | refine Sub.c3 ?_ | refine Sub.c4 ?_ | refine Sub.c5 ?_ | refine Sub.c6 ?_ | refine Sub.c7 ?_ | refine Sub.c8 ?_ | refine Sub.c9 ?_ | refine Sub.skip ?_)))) ?_; clear hs; intro hs) | (refine seg_on hs.drew (fun _ h => h) (fun _ h => by (show sat W [own 3 1 (.slice (some ⟨g5, 0, none⟩) m c5) m (natsV B)] _; (refine sat_from ?_ h; repeat (first | exact Sub.refl _ | exact Sub.nil _ | refine Sub.c0 ?_ | refine Sub.c1 ?_ | refine Sub.c2 ?_ | refine Sub.c3 ?_ | refine Sub.c4 ?_ | refine Sub.c5 ?_ | refine Sub.c6 ?_ | refine Sub.c7 ?_ | refine Sub.c8 ?_ | refine Sub.c9 ?_ | refine Sub.skip ?_)))) ?_; clear hs; intro hs) | (refine seg_on hs.drew.made (fun _ h => h) (fun _ h => by (show sat W [own 3 1 (.slice (some ⟨g5, 0, none⟩) m c5) m (natsV B)] _; (refine sat_from ?_ h; repeat (first | exact Sub.refl _ | exact Sub.nil _ | refine Sub.c0 ?_ | refine Sub.c1 ?_ | refine Sub.c2 ?_ | refine Sub.c3 ?_ | refine Sub.c4 ?_ | refine Sub.c5 ?_ | refine Sub.c6 ?_ | refine Sub.c7 ?_ | refine Sub.c8 ?_ | refine Sub.c9 ?_ | refine Sub.skip ?_)))) ?_; clear hs; intro hs) | (refine seg_on (hs.drewN _) (fun _ h => h) (fun _ h => by (show sat W [own 3 1 (.slice (some ⟨g5, 0, none⟩) m c5) m (natsV B)] _; (refine sat_from ?_ h; repeat (first | exact Sub.refl _ | exact Sub.nil _ | refine Sub.c0 ?_ | refine Sub.c1 ?_ | refine Sub.c2 ?_ | refine Sub.c3 ?_ | refine Sub.c4 ?_ | refine Sub.c5 ?_ | refine Sub.c6 ?_ | refine Sub.c7 ?_ | refine Sub.c8 ?_ | refine Sub.c9 ?_ | refine Sub.skip ?_)))) ?_; clear hs; intro hs))
            refine seg_last (fun _ h => by (show sat W [own 3 1 (.slice (some ⟨g5, 0, none⟩) m c5) m (natsV B)] _; (refine sat_from ?_ h; repeat (first | exact Sub.refl _ | exact Sub.nil _ | refine Sub.c0 ?_ | refine Sub.c1 ?_ | refine Sub.c2 ?_ | refine Sub.c3 ?_ | refine Sub.c4 ?_ | refine Sub.c5 ?_ | refine Sub.c6 ?_ | refine Sub.c7 ?_ | refine Sub.c8 ?_ | refine Sub.c9 ?_ | refine Sub.skip ?_)))) ?_; intro X f hne hf hcl; (try simp only [Act.put, List.setIfInBounds_toArray, List.set_cons_succ, List.set_cons_zero]); (repeat (first | ((with_reducible apply ldoq (fun x => (hf x).b0)); exact rfl; exact rfl; exact rfl; exact HX.out; kernel_rfl; (try simp only [Act.put, List.setIfInBounds_toArray, List.set_cons_succ, List.set_cons_zero])) | go_big_quiet_step (fail))); refine wpQuiet_nil ?_; clear hcl hf hne hs f X; intro w hs
            go_wp2_with fail
            go_roundw
            case rel => exact ⟨0, 0, by omega, by go_num, Lib.hid (fun h => absurd h (by omega)), by (refine sat_from ?_ hs; repeat (first | exact Sub.refl _ | exact Sub.nil _ | refine Sub.c0 ?_ | refine Sub.c1 ?_ | refine Sub.c2 ?_ | refine Sub.c3 ?_ | refine Sub.c4 ?_ | refine Sub.c5 ?_ | refine Sub.c6 ?_ | refine Sub.c7 ?_ | refine Sub.c8 ?_ | refine Sub.c9 ?_ | refine Sub.skip ?_))⟩
            case measure => simp [intOf]
          | succ j =>
            obtain ⟨o2, hbo2⟩ : ∃ o2, B[j]? = some o2 := by
              have := (List.getElem?_eq_some_iff.1 hbo).1
              exact ⟨_, List.getElem?_eq_getElem (by omega)⟩
            have h0 : 0 < o := by
              obtain ⟨h1, h2⟩ := List.getElem?_eq_some_iff.1 hbo2
              obtain ⟨h3, h4⟩ := List.getElem?_eq_some_iff.1 hbo
              have := List.pairwise_iff_getElem.1 HPW.out j (j + 1) h1 h3 (by omega)
              omega
            have hob : o ≤ 1000000 := by have := HLE.out _ _ hbo; omega
            have HF2 := Lib.hid (show lastOf cells wd hw ((o : Int) - 1) = o2 by rw [HLO.out, HB.out]; exact Pan.lastB_prev HPW.out hbo2 hbo)
            have HBO2 := Lib.hid hbo2
            clear hbo hbo2
            go_upto_region 16 with fail
            refine region_mix [([0, 2, 3, 4, 5], [1]), ([6, 7, 8, 9, 11, 12], [10])] [13, 14] hs (fun _ h => by (show sat W [own 3 1 (.slice (some ⟨g5, 0, none⟩) m c5) m (natsV B)] _; (refine sat_from ?_ h; repeat (first | exact Sub.refl _ | exact Sub.nil _ | refine Sub.c0 ?_ | refine Sub.c1 ?_ | refine Sub.c2 ?_ | refine Sub.c3 ?_ | refine Sub.c4 ?_ | refine Sub.c5 ?_ | refine Sub.c6 ?_ | refine Sub.c7 ?_ | refine Sub.c8 ?_ | refine Sub.c9 ?_ | refine Sub.skip ?_)))) (by kernel_rfl) (by kernel_rfl) (fun _ _ _ _ _ h => h) ?_
            simp only [segs, nths, nth, List.append_nil, List.nil_append, List.cons_append, List.map_cons, List.map_nil]
            refine seg_reads (fun _ h => by (show sat W [own 3 1 (.slice (some ⟨g5, 0, none⟩) m c5) m (natsV B)] _; (refine sat_from ?_ h; repeat (first | exact Sub.refl _ | exact Sub.nil _ | refine Sub.c0 ?_ | refine Sub.c1 ?_ | refine Sub.c2 ?_ | refine Sub.c3 ?_ | refine Sub.c4 ?_ | refine Sub.c5 ?_ | refine Sub.c6 ?_ | refine Sub.c7 ?_ | refine Sub.c8 ?_ | refine Sub.c9 ?_ | refine Sub.skip ?_)))) ?_; intro X f hne hf hcl; (try simp only [Act.put, List.setIfInBounds_toArray, List.set_cons_succ, List.set_cons_zero]); (repeat (first | ((with_reducible apply ldoq (fun x => (hf x).b0)); exact rfl; exact rfl; exact rfl; exact HX.out; kernel_rfl; (try simp only [Act.put, List.setIfInBounds_toArray, List.set_cons_succ, List.set_cons_zero])) | go_big_quiet_step (fail))); refine wpQuiet_nil ?_; clear hcl hf hne hs f X; intro w hs
            go_wp2_with (first | (go_at_call 11; refine (offset11 hw hs).mono ?_; clear hs; rintro e w ⟨rfl, hs⟩) | (go_at_call 13; refine (left_yes (Hc := [old w0]) hw hw2 HR.out h0 hob HF.out HF2.out hs).mono ?_; clear hs; rintro e w ⟨rfl, hs⟩) | ((with_reducible refine isl ?_); first | ((with_reducible refine wrap hs ?_); clear hs; intro w hs) | ((with_reducible refine wrapn hs ?_); clear hs; intro w hs) | ((with_reducible refine wrapd hs ?_); clear hs; intro w hs)))
            (first | (refine seg_on hs (fun _ h => h) (fun _ h => by (show sat W [own 3 1 (.slice (some ⟨g5, 0, none⟩) m c5) m (natsV B)] _; (refine sat_from ?_ h; repeat (first | exact Sub.refl _ | exact Sub.nil _ | refine Sub.c0 ?_ | refine Sub.c1 ?_ | refine Sub.c2 ?_ | refine Sub.c3 ?_ | refine Sub.c4 ?_ | refine Sub.c5 ?_ | refine Sub.c6 ?_ | refine Sub.c7 ?_ | refine Sub.c8 ?_ | refine Sub.c9 ?_ | refine Sub.skip ?_)))) ?_; clear hs; intro hs) | (refine seg_on hs.made (fun _ h => h) (fun _ h => by (show sat W [own 3 1 (.slice (some ⟨g5, 0, none⟩) m c5) m (natsV B)] _; (refine sat_from ?_ h; repeat (first | exact Sub.refl _ | exact Sub.nil _ | refine Sub.c0 ?_ | refine Sub.c1 ?_ | refine Sub.c2 ?_ | refine Sub.c3 ?_ | refine Sub.c4 ?_ | refine Sub.c5 ?_ | refine Sub.c6 ?_ | refine Sub.c7 ?_ | refine Sub.c8 ?_ | refine Sub.c9 ?_ | refine Sub.skip ?_)))) ?_; clear hs; intro hs) | (refine seg_on hs.drew (fun _ h => h) (fun _ h => by (show sat W [own 3 1 (.slice (some ⟨g5, 0, none⟩) m c5) m (natsV B)] _; (refine sat_from ?_ h; repeat (first | exact Sub.refl _ | exact Sub.nil _ | refine Sub.c0 ?_ | refine Sub.c1 ?_ | refine Sub.c2 ?_ | refine Sub.c3 ?_ | refine Sub.c4 ?_ | refine Sub.c5 ?_ | refine Sub.c6 ?_ | refine Sub.c7 ?_ | refine Sub.c8 ?_ | refine Sub.c9 ?_ | refine Sub.skip ?_)))) ?_; clear hs; intro hs) | (refine seg_on hs.drew.made (fun _ h => h) (fun _ h => by (show sat W [own 3 1 (.slice (some ⟨g5, 0, none⟩) m c5) m (natsV B)] _; (refine sat_from ?_ h; repeat (first | exact Sub.refl _ | exact Sub.nil _ | refine Sub.c0 ?_ | refine Sub.c1 ?_ | refine Sub.c2 ?_ | refine Sub.c3 ?_ | refine Sub.c4 ?_ | refine Sub.c5 ?_ | refine Sub.c6 ?_ | refine Sub.c7 ?_ | refine Sub.c8 ?_ | refine Sub.c9 ?_ | refine Sub.skip ?_)))) ?_; clear hs; intro hs) | (refine seg_on (hs.drewN _) (fun _ h => h) (fun _ h => by (show sat W [own 3 1 (.slice (some ⟨g5, 0, none⟩) m c5) m (natsV B)] _; (refine sat_from ?_ h; repeat (first | exact Sub.refl _ | exact Sub.nil _ | refine Sub.c0 ?_ | refine Sub.c1 ?_ | refine Sub.c2 ?_ | refine Sub.c3 ?_ | refine Sub.c4 ?_ | refine Sub.c5 ?_ | refine Sub.c6 ?_ | refine Sub.c7 ?_ | refine Sub.c8 ?_ | refine Sub.c9 ?_ | refine Sub.skip ?_)))) ?_; clear hs; intro hs))
            refine seg_reads (fun _ h => by (show sat W [own 3 1 (.slice (some ⟨g5, 0, none⟩) m c5) m (natsV B)] _; (refine sat_from ?_ h; repeat (first | exact Sub.refl _ | exact Sub.nil _ | refine Sub.c0 ?_ | refine Sub.c1 ?_ | refine Sub.c2 ?_ | refine Sub.c3 ?_ | refine Sub.c4 ?_ | refine Sub.c5 ?_ | refine Sub.c6 ?_ | refine Sub.c7 ?_ | refine Sub.c8 ?_ | refine Sub.c9 ?_ | refine Sub.skip ?_)))) ?_; intro X f hne hf hcl; (try simp only [Act.put, List.setIfInBounds_toArray, List.set_cons_succ, List.set_cons_zero]); (repeat (first | ((with_reducible apply ldoq (fun x => (hf x).b0)); exact rfl; exact rfl; exact rfl; exact HX.out; kernel_rfl; (try simp only [Act.put, List.setIfInBounds_toArray, List.set_cons_succ, List.set_cons_zero])) | go_big_quiet_step (fail))); refine wpQuiet_nil ?_; clear hcl hf hne hs f X; intro w hs
            go_wp2_with (first | (go_at_call 11; refine (offset11 hw hs).mono ?_; clear hs; rintro e w ⟨rfl, hs⟩) | (go_at_call 13; refine (left_yes (Hc := [old w0]) hw hw2 HR.out h0 hob HF.out HF2.out hs).mono ?_; clear hs; rintro e w ⟨rfl, hs⟩) | ((with_reducible refine isl ?_); first | ((with_reducible refine wrap hs ?_); clear hs; intro w hs) | ((with_reducible refine wrapn hs ?_); clear hs; intro w hs) | ((with_reducible refine wrapd hs ?_); clear hs; intro w hs)))
            (first | (refine seg_on hs (fun _ h => h) (fun _ h => by (show sat W [own 3 1 (.slice (some ⟨g5, 0, none⟩) m c5) m (natsV B)] _; (refine sat_from ?_ h; repeat (first | exact Sub.refl _ | exact Sub.nil _ | refine Sub.c0 ?_ | refine Sub.c1 ?_ | refine Sub.c2 ?_ | refine Sub.c3 ?_ | refine Sub.c4 ?_ | refine Sub.c5 ?_ | refine Sub.c6 ?_ | refine Sub.c7 ?_ | refine Sub.c8 ?_ | refine Sub.c9 ?_ | refine Sub.skip ?_)))) ?_; clear hs; intro hs) | (refine seg_on hs.made (fun _ h => h) (fun _ h => by (show sat W [own 3 1 (.slice (some ⟨g5, 0, none⟩) m c5) m (natsV B)] _; (refine sat_from ?_ h; repeat (first | exact Sub.refl _ | exact Sub.nil _ | refine Sub.c0 ?_ | refine Sub.c1 ?_ | refine Sub.c2 ?_ | refine Sub.c3 ?_ | refine Sub.c4 ?_ | refine Sub.c5 ?_ | refine Sub.c6 ?_ | refine Sub.c7 ?_ | refine Sub.c8 ?_ | refine Sub.c9 ?_ | refine Sub.skip ?_)))) ?_; clear hs; intro hs) | (refine seg_on hs.drew (fun _ h => h) (fun _ h => by (show sat W [own 3 1 (.slice (some ⟨g5, 0, none⟩) m c5) m (natsV B)] _; (refine sat_from ?_ h; repeat (first | exact Sub.refl _ | exact Sub.nil _ | refine Sub.c0 ?_ | refine Sub.c1 ?_ | refine Sub.c2 ?_ | refine Sub.c3 ?_ | refine Sub.c4 ?_ | refine Sub.c5 ?_ | refine Sub.c6 ?_ | refine Sub.c7 ?_ | refine Sub.c8 ?_ | refine Sub.c9 ?_ | refine Sub.skip ?_)))) ?_; clear hs; intro hs) | (refine seg_on hs.drew.made (fun _ h => h) (fun _ h => by (show sat W [own 3 1 (.slice (some ⟨g5, 0, none⟩) m c5) m (natsV B)] _; (refine sat_from ?_ h; repeat (first | exact Sub.refl _ | exact Sub.nil _ | refine Sub.c0 ?_ | refine Sub.c1 ?_ | refine Sub.c2 ?_ | refine Sub.c3 ?_ | refine Sub.c4 ?_ | refine Sub.c5 ?_ | refine Sub.c6 ?_ | refine Sub.c7 ?_ | refine Sub.c8 ?_ | refine Sub.c9 ?_ | refine Sub.skip ?_)))) ?_; clear hs; intro hs) | (refine seg_on (hs.drewN _) (fun _ h => h) (fun _ h => by (show sat W [own 3 1 (.slice (some ⟨g5, 0, none⟩) m c5) m (natsV B)] _; (refine sat_from ?_ h; repeat (first | exact Sub.refl _ | exact Sub.nil _ | refine Sub.c0 ?_ | refine Sub.c1 ?_ | refine Sub.c2 ?_ | refine Sub.c3 ?_ | refine Sub.c4 ?_ | refine Sub.c5 ?_ | refine Sub.c6 ?_ | refine Sub.c7 ?_ | refine Sub.c8 ?_ | refine Sub.c9 ?_ | refine Sub.skip ?_)))) ?_; clear hs; intro hs))
            refine seg_last (fun _ h => by (show sat W [own 3 1 (.slice (some ⟨g5, 0, none⟩) m c5) m (natsV B)] _; (refine sat_from ?_ h; repeat (first | exact Sub.refl _ | exact Sub.nil _ | refine Sub.c0 ?_ | refine Sub.c1 ?_ | refine Sub.c2 ?_ | refine Sub.c3 ?_ | refine Sub.c4 ?_ | refine Sub.c5 ?_ | refine Sub.c6 ?_ | refine Sub.c7 ?_ | refine Sub.c8 ?_ | refine Sub.c9 ?_ | refine Sub.skip ?_)))) ?_; intro X f hne hf hcl; (try simp only [Act.put, List.setIfInBounds_toArray, List.set_cons_succ, List.set_cons_zero]); (repeat (first | ((with_reducible apply ldoq (fun x => (hf x).b0)); exact rfl; exact rfl; exact rfl; exact HX.out; kernel_rfl; (try simp only [Act.put, List.setIfInBounds_toArray, List.set_cons_succ, List.set_cons_zero])) | go_big_quiet_step (fail))); refine wpQuiet_nil ?_; clear hcl hf hne hs f X; intro w hs
            go_wp2_with fail
            go_roundw
            case rel => exact ⟨j + 1, o2, by omega, by go_num, Lib.hid (fun _ => HBO2.out), by (refine sat_from ?_ hs; repeat (first | exact Sub.refl _ | exact Sub.nil _ | refine Sub.c0 ?_ | refine Sub.c1 ?_ | refine Sub.c2 ?_ | refine Sub.c3 ?_ | refine Sub.c4 ?_ | refine Sub.c5 ?_ | refine Sub.c6 ?_ | refine Sub.c7 ?_ | refine Sub.c8 ?_ | refine Sub.c9 ?_ | refine Sub.skip ?_))⟩
            case measure => simp [intOf]; omega
    case rest =>
      clear hs HBO
      obtain ⟨o, hs⟩ := hcut
      go_upto_block 4 with fail
      go_cut [10, 11, 86] from 87 to 129 (fun _ _ _ wx => ∃ o, sat W (cel b 36 (winL wd o) :: old w0 :: own 3 1 (.slice a5 m c5) m (natsV B) :: H) wx)
      case first =>
        go_wp2_with fail
        go_loopw [10, 11, 86] (fun _ _ i wr => ∃ i' o : Nat, i' ≤ n ∧ i = .int .i64 (i' : Int) ∧ sat W (cel b 36 (winL wd o) :: old w0 :: own 3 1 (.slice a5 m c5) m (natsV B) :: H) wr) (fun _ _ i _ => ((n : Int) - intOf i).toNat)
        case atStart => exact ⟨0, o, Nat.zero_le _, rfl, hs⟩
        case round =>
          clear hs
          obtain ⟨i, o, hi, rfl, hs⟩ := hrel
          by_cases hin : i < n
          · obtain ⟨b1, o1, rfl, hc⟩ := HR.out.cell (sat.start w0) hin
            obtain ⟨o2, ho2⟩ : ∃ o2, lastOf cells wd hw (i : Int) = o2 := ⟨_, rfl⟩
            have hcv := HCO.out i hin
            have hse := HSE.out i hin
            rw [ho2] at hcv hse
            have HO2 := Lib.hid ho2
            have HSF := Lib.hid hse
            have HV := Lib.hid (showL_get (cells := cells) (wd := wd) (by have := HN.out; omega) hcv.1 hcv.2)
            have HCW := Lib.hid hc
            have e1 : (i : Int) - (o2 : Int) = ((i - o2 : Nat) : Int) := by omega
            have h2 : (o2 : Int) ≤ (i : Int) := by omega
            have h3 : ((i - o2 : Nat) : Int) < (wd : Int) := by omega
            have h4 : (i : Int) < (n : Int) := by omega
            have h5 : (0 : Int) ≤ (i : Int) := by omega
            generalize hx : cells.getD i 0 = x at HV HCW
            clear hcv hse ho2 hc hx
            go_upto_region 24 with (first | (go_at_call 14; refine (to_yes (Hc := [old w0]) hw hw2 HR.out h5 h4 HO2.out hs).mono ?_; clear hs; rintro e w ⟨rfl, hs⟩) | (go_at_call 11; refine (offset11 hw hs).mono ?_; clear hs; rintro e w ⟨rfl, hs⟩) | (go_at_call 15; refine (show15 (Hc := [old w0]) hw hw2 HR.out HSF.out hs).mono ?_; clear hs; rintro e w ⟨g7, rfl, hs⟩))
            replace hs : sat W (cel b 36 (winL wd o2) :: own 5 1 (.slice (some ⟨g7, 0, none⟩) wd wd) wd (bytesV (showL cells wd o2)) :: old w0 :: own 3 1 (.slice a5 m c5) m (natsV B) :: H) w := by
              simp only [List.cons_append, List.nil_append] at hs
              (refine sat_from ?_ hs; repeat (first | exact Sub.refl _ | exact Sub.nil _ | refine Sub.c0 ?_ | refine Sub.c1 ?_ | refine Sub.c2 ?_ | refine Sub.c3 ?_ | refine Sub.c4 ?_ | refine Sub.c5 ?_ | refine Sub.c6 ?_ | refine Sub.c7 ?_ | refine Sub.c8 ?_ | refine Sub.c9 ?_ | refine Sub.skip ?_))
            refine region_mix [([0, 1, 2, 3, 4, 5, 6, 7, 12, 13, 14, 15], [8])] [9, 10, 11, 16, 17] hs (fun _ h => by (show sat W [own 5 1 (.slice (some ⟨g7, 0, none⟩) wd wd) wd (bytesV (showL cells wd o2)), old w0] _; (refine sat_from ?_ h; repeat (first | exact Sub.refl _ | exact Sub.nil _ | refine Sub.c0 ?_ | refine Sub.c1 ?_ | refine Sub.c2 ?_ | refine Sub.c3 ?_ | refine Sub.c4 ?_ | refine Sub.c5 ?_ | refine Sub.c6 ?_ | refine Sub.c7 ?_ | refine Sub.c8 ?_ | refine Sub.c9 ?_ | refine Sub.skip ?_)))) (by kernel_rfl) (by kernel_rfl) (fun _ _ _ _ _ h => h) ?_
            simp only [segs, nths, nth, List.append_nil, List.nil_append, List.cons_append, List.map_cons, List.map_nil]
            refine seg_reads (fun _ h => by (show sat W [own 5 1 (.slice (some ⟨g7, 0, none⟩) wd wd) wd (bytesV (showL cells wd o2)), old w0] _; (refine sat_from ?_ h; repeat (first | exact Sub.refl _ | exact Sub.nil _ | refine Sub.c0 ?_ | refine Sub.c1 ?_ | refine Sub.c2 ?_ | refine Sub.c3 ?_ | refine Sub.c4 ?_ | refine Sub.c5 ?_ | refine Sub.c6 ?_ | refine Sub.c7 ?_ | refine Sub.c8 ?_ | refine Sub.c9 ?_ | refine Sub.skip ?_)))) ?_; intro X f hne hf hcl; (try simp only [Act.put, List.setIfInBounds_toArray, List.set_cons_succ, List.set_cons_zero]); (repeat (first | ((with_reducible apply ldoq (fun x => (hf x).b0)); exact rfl; exact rfl; exact rfl; exact HV.out; kernel_rfl; (try simp only [Act.put, List.setIfInBounds_toArray, List.set_cons_succ, List.set_cons_zero])) | ((with_reducible apply ldoldq (fun x => (hf x).b1)); exact rfl; exact rfl; exact rfl; exact HCW.out; kernel_rfl; (try simp only [Act.put, List.setIfInBounds_toArray, List.set_cons_succ, List.set_cons_zero])) | go_big_quiet_step (fail))); refine wpQuiet_nil ?_; clear hcl hf hne hs f X; intro w hs
            go_wp2_with (first | (go_at_call 11; refine (offset11 hw hs).mono ?_; clear hs; rintro e w ⟨rfl, hs⟩) | ((with_reducible refine isl ?_); first | ((with_reducible refine wrap hs ?_); clear hs; intro w hs) | ((with_reducible refine wrapn hs ?_); clear hs; intro w hs) | ((with_reducible refine wrapd hs ?_); clear hs; intro w hs)))
            (first | (refine seg_on hs (fun _ h => h) (fun _ h => by (show sat W [own 5 1 (.slice (some ⟨g7, 0, none⟩) wd wd) wd (bytesV (showL cells wd o2)), old w0] _; (refine sat_from ?_ h; repeat (first | exact Sub.refl _ | exact Sub.nil _ | refine Sub.c0 ?_ | refine Sub.c1 ?_ | refine Sub.c2 ?_ | refine Sub.c3 ?_ | refine Sub.c4 ?_ | refine Sub.c5 ?_ | refine Sub.c6 ?_ | refine Sub.c7 ?_ | refine Sub.c8 ?_ | refine Sub.c9 ?_ | refine Sub.skip ?_)))) ?_; clear hs; intro hs) | (refine seg_on hs.made (fun _ h => h) (fun _ h => by (show sat W [own 5 1 (.slice (some ⟨g7, 0, none⟩) wd wd) wd (bytesV (showL cells wd o2)), old w0] _; (refine sat_from ?_ h; repeat (first | exact Sub.refl _ | exact Sub.nil _ | refine Sub.c0 ?_ | refine Sub.c1 ?_ | refine Sub.c2 ?_ | refine Sub.c3 ?_ | refine Sub.c4 ?_ | refine Sub.c5 ?_ | refine Sub.c6 ?_ | refine Sub.c7 ?_ | refine Sub.c8 ?_ | refine Sub.c9 ?_ | refine Sub.skip ?_)))) ?_; clear hs; intro hs) | (refine seg_on hs.drew (fun _ h => h) (fun _ h => by (show sat W [own 5 1 (.slice (some ⟨g7, 0, none⟩) wd wd) wd (bytesV (showL cells wd o2)), old w0] _; (refine sat_from ?_ h; repeat (first | exact Sub.refl _ | exact Sub.nil _ | refine Sub.c0 ?_ | refine Sub.c1 ?_ | refine Sub.c2 ?_ | refine Sub.c3 ?_ | refine Sub.c4 ?_ | refine Sub.c5 ?_ | refine Sub.c6 ?_ | refine Sub.c7 ?_ | refine Sub.c8 ?_ | refine Sub.c9 ?_ | refine Sub.skip ?_)))) ?_; clear hs; intro hs) | (refine seg_on hs.drew.made (fun _ h => h) (fun _ h => by (show sat W [own 5 1 (.slice (some ⟨g7, 0, none⟩) wd wd) wd (bytesV (showL cells wd o2)), old w0] _; (refine sat_from ?_ h; repeat (first | exact Sub.refl _ | exact Sub.nil _ | refine Sub.c0 ?_ | refine Sub.c1 ?_ | refine Sub.c2 ?_ | refine Sub.c3 ?_ | refine Sub.c4 ?_ | refine Sub.c5 ?_ | refine Sub.c6 ?_ | refine Sub.c7 ?_ | refine Sub.c8 ?_ | refine Sub.c9 ?_ | refine Sub.skip ?_)))) ?_; clear hs; intro hs) | (refine seg_on (hs.drewN _) (fun _ h => h) (fun _ h => by (show sat W [own 5 1 (.slice (some ⟨g7, 0, none⟩) wd wd) wd (bytesV (showL cells wd o2)), old w0] _; (refine sat_from ?_ h; repeat (first | exact Sub.refl _ | exact Sub.nil _ | refine Sub.c0 ?_ | refine Sub.c1 ?_ | refine Sub.c2 ?_ | refine Sub.c3 ?_ | refine Sub.c4 ?_ | refine Sub.c5 ?_ | refine Sub.c6 ?_ | refine Sub.c7 ?_ | refine Sub.c8 ?_ | refine Sub.c9 ?_ | refine Sub.skip ?_)))) ?_; clear hs; intro hs))
            refine seg_last (fun _ h => by (show sat W [own 5 1 (.slice (some ⟨g7, 0, none⟩) wd wd) wd (bytesV (showL cells wd o2)), old w0] _; (refine sat_from ?_ h; repeat (first | exact Sub.refl _ | exact Sub.nil _ | refine Sub.c0 ?_ | refine Sub.c1 ?_ | refine Sub.c2 ?_ | refine Sub.c3 ?_ | refine Sub.c4 ?_ | refine Sub.c5 ?_ | refine Sub.c6 ?_ | refine Sub.c7 ?_ | refine Sub.c8 ?_ | refine Sub.c9 ?_ | refine Sub.skip ?_)))) ?_; intro X f hne hf hcl; (try simp only [Act.put, List.setIfInBounds_toArray, List.set_cons_succ, List.set_cons_zero]); (repeat (first | ((with_reducible apply ldoq (fun x => (hf x).b0)); exact rfl; exact rfl; exact rfl; exact HV.out; kernel_rfl; (try simp only [Act.put, List.setIfInBounds_toArray, List.set_cons_succ, List.set_cons_zero])) | ((with_reducible apply ldoldq (fun x => (hf x).b1)); exact rfl; exact rfl; exact rfl; exact HCW.out; kernel_rfl; (try simp only [Act.put, List.setIfInBounds_toArray, List.set_cons_succ, List.set_cons_zero])) | go_big_quiet_step (fail))); refine wpQuiet_nil ?_; clear hcl hf hne hs f X; intro w hs
            go_wp2_with fail
            go_roundw
            case rel => exact ⟨i + 1, o2, by omega, by go_num, by (refine sat_from ?_ hs; repeat (first | exact Sub.refl _ | exact Sub.nil _ | refine Sub.c0 ?_ | refine Sub.c1 ?_ | refine Sub.c2 ?_ | refine Sub.c3 ?_ | refine Sub.c4 ?_ | refine Sub.c5 ?_ | refine Sub.c6 ?_ | refine Sub.c7 ?_ | refine Sub.c8 ?_ | refine Sub.c9 ?_ | refine Sub.skip ?_))⟩
            case measure => simp [intOf]; omega
          · have hin : i = n := by omega
            subst hin
            go_wp2_with fail
            go_meet
            case rel => exact ⟨o, hs⟩
      case rest =>
        clear hs
        obtain ⟨o, hs⟩ := hcut
        go_wp2_with (first | (go_at_call 14; refine (to_no hw (.inr (Int.le_refl _)) hs).mono ?_; clear hs; rintro e w ⟨rfl, hs⟩) | (go_at_call 14; refine (to_no hw (.inl (by decide)) hs).mono ?_; clear hs; rintro e w ⟨rfl, hs⟩) | (go_at_call 8; refine (known8 hs).mono ?_; clear hs; rintro e w ⟨rfl, hs⟩))
        go_ret
        exact ⟨rfl, by (refine sat_from ?_ hs; repeat (first | exact Sub.refl _ | exact Sub.nil _ | refine Sub.c0 ?_ | refine Sub.c1 ?_ | refine Sub.c2 ?_ | refine Sub.c3 ?_ | refine Sub.c4 ?_ | refine Sub.c5 ?_ | refine Sub.c6 ?_ | refine Sub.c7 ?_ | refine Sub.c8 ?_ | refine Sub.c9 ?_ | refine Sub.skip ?_))⟩
theorem walks_top {E : Type} {enc : TypeId × Value → E} (a0 : Option Addr) (n0 c0 : Nat) (a1 : Int) (w : World) (r0 : Rd enc Try.prog w 22 [.slice a0 n0 c0]) (_ : (Lit.int .i64 a1).wf = true) :
    Calls Try.prog 4 #[.slice a0 n0 c0, .int .i64 a1] w fun e w' => e = .returned (.bool true) ∧ Below w.heap.size w w' := by
  obtain ⟨cells, hr, _, hn, hm⟩ := rdc_arg r0
  by_cases h : 500 < n0
  · exact (walks_guard a0 n0 c0 _ h hm (sat.start w)).mono fun _ _ ⟨he, hs⟩ => ⟨he, hs.below⟩
  · by_cases hx : a1 < 1 ∨ 80 < a1
    · exact (walks_no a0 n0 c0 a1 (by omega) hx (sat.start w)).mono fun _ _ ⟨he, hs⟩ => ⟨he, hs.below⟩
    · obtain ⟨wd, rfl⟩ : ∃ wd : Nat, a1 = wd := ⟨a1.toNat, by omega⟩
      exact (walks_walk w (by omega) (by omega) hr (by omega) hn (sat.start w)).mono fun _ _ ⟨he, hs⟩ => ⟨he, hs.below⟩
end
end Go.Proofs.Ytdbhgjkdblhhkaa
