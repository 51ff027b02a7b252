import Derived.Test.YtaajgkccannjlaaT10
namespace Go.Proofs.Ytaajgkccannjlaa
open Go.RowKit Go.Mem Go.Utf
variable {W w : World} {H : List HProp}
attribute [local irreducible] World.setCell World.alloc World.drew World.drewN Calls sat cel own blk old wpQuiet first size begins more SK val head value say BR EB run feed dec enc sI
theorem splits_guard (ad ad2 : Option Addr) (n cp n2 cp2 : Nat) (h : 1000 < n ∨ (n ≤ 1000 ∧ 1000 < n2)) (hn : n ≤ maxLen) (hn2 : n2 ≤ maxLen) (hs : sat W H w) : Calls Try.prog 7 #[.slice ad n cp, .slice ad2 n2 cp2] w fun e w' => e = .returned (.bool true) ∧ sat W H w' := by
  unfold maxLen at hn hn2
  rcases h with h | ⟨h, g⟩
  all_goals
    go_enter Try.func7, Try.ntmps7
    go_wp2_with (first
    | (go_at_call 9; refine (known9 hs).mono ?_; clear hs; rintro e w ⟨rfl, hs⟩)
    | (refine wrap hs ?_; clear hs; intro w hs)
    | (refine wrapn hs ?_; clear hs; intro w hs)
    | (refine wrapd hs ?_; clear hs; intro w hs))
    go_ret
    exact ⟨rfl, hs⟩
theorem run_more (d0 : D) (l : List Int) (k : Nat) (x : Int) (hx : l[k]? = some x) (d : D) (acc : List Int) (h : run d0 (l.take k) = (d, acc)) : run d0 (l.take (k + 1)) = ((feed d x).1, acc ++ (feed d x).2) := by
  obtain ⟨hl, hg⟩ := List.getElem?_eq_some_iff.1 hx
  rw [List.take_succ_eq_append_getElem hl, hg, run_snoc, h]
theorem run_bd (d0 : D) (l : List Int) (d : D) (acc : List Int) (h : run d0 l = (d, acc)) : acc.length + busy d ≤ busy d0 + l.length := by
  have := run_len l d0
  rw [h] at this
  exact this
theorem run_Inv : ∀ (l : List Int) (d : D), Inv d → Inv (run d l).1
  | [], d, h => by rw [run_nil]; exact h
  | x :: l, d, h => by
    have : run d (x :: l) = ((run (feed d x).1 l).1, (feed d x).2 ++ (run (feed d x).1 l).2) := by conv => lhs; unfold run
    rw [this]; exact run_Inv l _ (feed_Inv h x)
set_option maxHeartbeats 8000000 in
theorem splits_walk (w0 : World) (ad ad2 : Option Addr) (n cp n2 cp2 : Nat) (l m : List Int) (h : n ≤ 1000) (h2 : n2 ≤ 1000) (hl : SK .u8 W (old w0 :: H) ad n cp l) (hb : ∀ x ∈ l, 0 ≤ x ∧ x < 256)
    (hm : SK .u8 W (old w0 :: H) ad2 n2 cp2 m) (hb2 : ∀ x ∈ m, 0 ≤ x ∧ x < 256) (hs : sat W (old w0 :: H) w) : Calls Try.prog 7 #[.slice ad n cp, .slice ad2 n2 cp2] w fun e w' => e = .returned (.bool true) ∧ sat W (old w0 :: H) w' := by
  have HL := Lib.hid hl
  have HM := Lib.hid hm
  have HB := Lib.hid hb
  have HB2 := Lib.hid hb2
  have hnl : n = l.length := by unfold SK at hl; exact hl.1
  have hnm : n2 = m.length := by unfold SK at hm; exact hm.1
  have HE := Lib.hid hnl
  have HE2 := Lib.hid hnm
  have HLn := Lib.hid (show (bytes l).length = n by rw [List.length_map, hnl])
  have HMn := Lib.hid (show (bytes m).length = n2 by rw [List.length_map, hnm])
  have HBALL : Hid (∀ x ∈ l ++ m, 0 ≤ x ∧ x < 256) := Lib.hid (by
    intro x hx
    rcases List.mem_append.1 hx with hx | hx
    · exact hb x hx
    · exact hb2 x hx)
  obtain ⟨d1, acc1, hr1⟩ : ∃ d acc, run .new l = (d, acc) := ⟨_, _, rfl⟩
  have HR1 := Lib.hid hr1
  have hi1 : Inv d1 := by have := run_Inv l .new new_Inv; rw [hr1] at this; exact this
  clear hl hm hb hb2 hnl hnm hr1
  go_enter Try.func7, Try.ntmps7
  go_wp2_with (first
    | (go_at_call 15; refine (new15 hs).mono ?_; clear hs; rintro e w ⟨z3, rfl, hs⟩)
    | (refine wrap hs ?_; clear hs; intro w hs)
    | (refine wrapn hs ?_; clear hs; intro w hs)
    | (refine wrapd hs ?_; clear hs; intro w hs))
  have hs := hs.own_nil 21 1
  go_loopw [6, 8, 23] (fun sv _ iv wr => ∃ (k q : Nat) (a' : Option Addr) (c' : Nat) (d : D) (acc : List Int), k ≤ n ∧ q ≤ k ∧ sv = .slice a' q c' ∧ iv = .int .i64 k ∧ Hid (run .new (l.take k) = (d, acc)) ∧ Inv d ∧ Hid (q = acc.length) ∧ sat W (own 21 1 (.slice a' q c') q (runes acc) :: cel z3 38 (dL d) :: old w0 :: H) wr) (fun _ _ iv _ => n - (intOf iv).toNat)
  case atStart => exact ⟨0, 0, none, 0, .new, [], Nat.zero_le _, Nat.le_refl _, rfl, rfl, Lib.hid (run_nil _), new_Inv, rfl, hs⟩
  case round =>
    clear hs
    obtain ⟨k, q, a', c', d, acc, hk, hq, rfl, rfl, HR, hi, HQ, hs⟩ := hrel
    by_cases hlt : k < n
    · obtain ⟨b, off, rfl⟩ := HL.out.ptr hs.drop.drop (by omega)
      obtain ⟨x, hx⟩ : ∃ x, l[k]? = some x := ⟨_, List.getElem?_eq_getElem (by rw [← HE.out]; exact hlt)⟩
      have CX := Lib.hid (HL.out.at k x hx)
      obtain ⟨x0, x1⟩ := HB.out x (List.mem_of_getElem? hx)
      have HR2 := run_more _ l k x hx d acc HR.out
      have hi2 := feed_Inv hi x
      have hl5 := feed_len2 d x
      obtain ⟨d2, o2, hf⟩ : ∃ d2 o2, feed d x = (d2, o2) := ⟨_, _, rfl⟩
      rw [hf] at HR2 hi2 hl5
      simp only at HR2 hi2 hl5
      have HI2 : Inv d2 := hi2
      have HF := Lib.hid hf
      have HL5 : Hid (o2.length ≤ 2) := Lib.hid hl5
      have HRR := Lib.hid HR2
      have hm2 : q + o2.length ≤ k + 1 := by
        have t1 := run_bd _ _ _ _ HR2
        rw [List.length_append, List.length_take, ← HQ.out, show busy D.new = 0 from by decide] at t1; omega
      have HM2 := Lib.hid hm2
      clear hx hf hi2 hl5 HR2 hm2
      as_aux_lemma =>
        go_wp2_with (first
    | (apply ldc; exact rfl; exact rfl; exact rfl; exact CX.out _ hs.drop.drop; kernel_rfl)
    | (go_at_call 16; refine (feed_t z3 d x d2 o2 HF.out x0 x1 hi hs.b1).mono ?_; clear hs; rintro e w hb; obtain ⟨a1, c1, rfl, hs⟩ := hb.elim; clear hb)
    | (apply appr hs.b2; exact rfl; exact rfl; exact rfl; exact rfl; exact slty25; exact hs.own_reads.1; exact runes_ok; (rw [List.length_map]; have := HL5.out; omega); (rw [List.length_map]; have := HL5.out; unfold maxLen; omega); clear hs; intro a5 c5 w hs; rw [List.length_map] at hs; rw [List.length_map]; replace hs := hs.b1.drop)
    | (refine wrap hs ?_; clear hs; intro w hs)
    | (refine wrapn hs ?_; clear hs; intro w hs)
    | (refine wrapd hs ?_; clear hs; intro w hs))
        go_roundw
        case rel => exact ⟨k + 1, q + o2.length, a5, c5, d2, acc ++ o2, by omega, HM2.out, rfl, by go_num, HRR, HI2, Lib.hid (by rw [List.length_append, HQ.out]), by rw [show runes (acc ++ o2) = runes acc ++ runes o2 from List.map_append]; exact hs⟩
        case measure => simp [intOf]; omega
    · obtain rfl : k = n := by omega
      have HRL : Hid (d = d1 ∧ acc = acc1) := Lib.hid (by
        have h := HR.out
        rw [List.take_of_length_le (by rw [← HE.out]; exact Nat.le_refl _), HR1.out] at h
        exact ⟨(Prod.mk.inj h).1.symm, (Prod.mk.inj h).2.symm⟩)
      obtain ⟨rfl, rfl⟩ := HRL.out
      clear HRL HR hlt hk
      go_wp2_with (first
    | (refine wrap hs ?_; clear hs; intro w hs)
    | (refine wrapn hs ?_; clear hs; intro w hs)
    | (refine wrapd hs ?_; clear hs; intro w hs))
      go_loopw [6, 10, 35] (fun sv _ iv wr => ∃ (j q : Nat) (a' : Option Addr) (c' : Nat) (e : D) (acc2 : List Int), j ≤ n2 ∧ q ≤ 1001 + j ∧ sv = .slice a' q c' ∧ iv = .int .i64 j ∧ Hid (run d (m.take j) = (e, acc2)) ∧ Inv e ∧ Hid (q = (acc ++ acc2).length) ∧ sat W (own 21 1 (.slice a' q c') q (runes (acc ++ acc2)) :: cel z3 38 (dL e) :: old w0 :: H) wr) (fun _ _ iv _ => n2 - (intOf iv).toNat)
      case atStart => exact ⟨0, q, a', c', d, [], Nat.zero_le _, by omega, rfl, rfl, Lib.hid (run_nil _), hi1, Lib.hid (by rw [List.append_nil]; exact HQ.out), by rw [List.append_nil]; exact hs⟩
      case round =>
        clear hs
        obtain ⟨j, q2, a2, c2, d', acc2, hj, hq2, rfl, rfl, HR, hi, HQ2, hs⟩ := hrel
        by_cases hlt : j < n2
        · obtain ⟨b, off, rfl⟩ := HM.out.ptr hs.drop.drop (by omega)
          obtain ⟨x, hx⟩ : ∃ x, m[j]? = some x := ⟨_, List.getElem?_eq_getElem (by rw [← HE2.out]; exact hlt)⟩
          have CX := Lib.hid (HM.out.at j x hx)
          obtain ⟨x0, x1⟩ := HB2.out x (List.mem_of_getElem? hx)
          have HR2 := run_more _ m j x hx d' acc2 HR.out
          have hi2 := feed_Inv hi x
          have hl5 := feed_len2 d' x
          obtain ⟨d2, o2, hf⟩ : ∃ d2 o2, feed d' x = (d2, o2) := ⟨_, _, rfl⟩
          rw [hf] at HR2 hi2 hl5
          simp only at HR2 hi2 hl5
          have HI2 : Inv d2 := hi2
          have HF := Lib.hid hf
          have HL5 : Hid (o2.length ≤ 2) := Lib.hid hl5
          have HRR := Lib.hid HR2
          have hm2 : q2 + o2.length ≤ 1001 + (j + 1) := by
            have t1 := run_bd _ _ _ _ HR2
            rw [List.length_append, List.length_take] at t1; have t2 := busy_le d; have t3 := HQ.out; have t4 := HQ2.out; rw [List.length_append] at t4; omega
          have HM2 := Lib.hid hm2
          clear hx hf hi2 hl5 HR2 hm2
          as_aux_lemma =>
            go_wp2_with (first
    | (apply ldc; exact rfl; exact rfl; exact rfl; exact CX.out _ hs.drop.drop; kernel_rfl)
    | (go_at_call 16; refine (feed_t z3 d' x d2 o2 HF.out x0 x1 hi hs.b1).mono ?_; clear hs; rintro e w hb; obtain ⟨a1, c1, rfl, hs⟩ := hb.elim; clear hb)
    | (apply appr hs.b2; exact rfl; exact rfl; exact rfl; exact rfl; exact slty25; exact hs.own_reads.1; exact runes_ok; (rw [List.length_map]; have := HL5.out; omega); (rw [List.length_map]; have := HL5.out; unfold maxLen; omega); clear hs; intro a5 c5 w hs; rw [List.length_map] at hs; rw [List.length_map]; replace hs := hs.b1.drop)
    | (refine wrap hs ?_; clear hs; intro w hs)
    | (refine wrapn hs ?_; clear hs; intro w hs)
    | (refine wrapd hs ?_; clear hs; intro w hs))
            go_roundw
            case rel => exact ⟨j + 1, q2 + o2.length, a5, c5, d2, acc2 ++ o2, by omega, HM2.out, rfl, by go_num, HRR, HI2, Lib.hid (by rw [← List.append_assoc, List.length_append, HQ2.out]), by rw [show runes (acc ++ (acc2 ++ o2)) = runes (acc ++ acc2) ++ runes o2 from by simp]; exact hs⟩
            case measure => simp [intOf]; omega
        · obtain ⟨d2, hd2⟩ : ∃ d2, (if d'.opn = 0 then d' else .new) = d2 := ⟨_, rfl⟩
          obtain ⟨o2, ho2⟩ : ∃ o2, (if d'.opn = 0 then [] else [bad]) = o2 := ⟨_, rfl⟩
          have HD := Lib.hid hd2
          have HO := Lib.hid ho2
          have HL5 : Hid (o2.length ≤ 2) := Lib.hid (by rw [← ho2]; split <;> simp)
          have HDEC : Hid (dec (l ++ m) = acc ++ acc2 ++ o2) := Lib.hid (by
            have h := HR.out
            rw [List.take_of_length_le (by rw [← HE2.out]; omega)] at h
            unfold dec
            rw [run_append, HR1.out]
            simp only
            rw [h]
            simp only
            rw [← ho2])
          clear hd2 ho2
          as_aux_lemma =>
            go_wp2_with (first
    | (go_at_call 17; refine (end_t z3 d' d2 o2 HD.out HO.out hs.b1).mono ?_; clear hs; rintro e w hb; obtain ⟨a3, c3, rfl, hs⟩ := hb.elim; clear hb)
    | (apply appr hs.b2; exact rfl; exact rfl; exact rfl; exact rfl; exact slty25; exact hs.own_reads.1; exact runes_ok; (rw [List.length_map]; have := HL5.out; omega); (rw [List.length_map]; have := HL5.out; unfold maxLen; omega); clear hs; intro a5 c5 w hs; rw [List.length_map] at hs; rw [List.length_map]; replace hs := hs.b1.drop; rw [show runes (acc ++ acc2) ++ runes o2 = runes (acc ++ acc2 ++ o2) from by simp] at hs)
    | (apply appf hs; exact rfl; exact rfl; exact rfl; exact rfl; exact slty22; exact HL.out.more.more.more.reads hs; exact ints_ok; exact HLn.out; omega; clear hs; intro a6 c6 w hs)
    | (apply apprm hs; exact rfl; exact rfl; exact rfl; exact rfl; exact slty22; exact HM.out.more.more.more.reads hs; exact ints_ok; exact HMn.out; omega; (unfold maxLen; omega); clear hs; intro a9 c9 w hs; rw [show bytes l ++ bytes m = bytes (l ++ m) from by simp] at hs)
    | (go_at_call 11; refine (decode_t (l ++ m) (acc ++ acc2 ++ o2) HDEC.out _ _ _ (SK.of_own hs) HBALL.out (by omega) hs).mono ?_; clear hs; rintro e w hb; obtain ⟨a10, c10, rfl, hs⟩ := hb.elim; clear hb; generalize (acc ++ acc2 ++ o2).length = n3 at hs ⊢)
    | (go_at_call 10; refine (same_s _ _ (acc ++ acc2 ++ o2) (hs.b2.own_reads.1) (hs.own_reads.1) hs).mono ?_; clear hs; rintro e w ⟨rfl, hs⟩; replace hs := hs.drop.drop.drop.drop)
    | (go_at_call 9; refine (known9 hs).mono ?_; clear hs; rintro e w ⟨rfl, hs⟩)
    | (refine wrap hs ?_; clear hs; intro w hs)
    | (refine wrapn hs ?_; clear hs; intro w hs)
    | (refine wrapd hs ?_; clear hs; intro w hs))
            go_ret
            exact ⟨rfl, hs⟩
theorem splits_top (ad : Option Addr) (len cap : Nat) (zs : List Int) (ad2 : Option Addr) (len2 cap2 : Nat) (zs2 : List Int) (w : World) (hr : IsRow .u8 w ad len cap zs) (hr2 : IsRow .u8 w ad2 len2 cap2 zs2) :
    Calls Try.prog 7 #[.slice ad len cap, .slice ad2 len2 cap2] w fun e w' => e = .returned (.bool true) ∧ Below w.heap.size w w' := by
  obtain ⟨l, hl, hw, hsl⟩ := sk_of_row hr
  obtain ⟨m, hm, hw2, hsl2⟩ := sk_of_row hr2
  have t1 := hsl w []
  have t2 := hsl2 w []
  by_cases h : 1000 < len ∨ (len ≤ 1000 ∧ 1000 < len2)
  · exact (splits_guard ad ad2 len cap len2 cap2 h (by unfold SK at t1; omega) (by unfold SK at t2; omega) (sat.start w)).mono fun _ _ ⟨he, hs⟩ => ⟨he, hs.below⟩
  · exact (splits_walk w ad ad2 len cap len2 cap2 l m (by omega) (by omega) t1 (bytes_wf hw) t2 (bytes_wf hw2) (sat.start w)).mono fun _ _ ⟨he, hs⟩ => ⟨he, hs.below⟩
end Go.Proofs.Ytaajgkccannjlaa
