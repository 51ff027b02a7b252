import Derived.Test.YtaajgkccannjlaaT6
namespace Go.Proofs.Ytaajgkccannjlaa
open Go.RowKit Go.Mem Go.Utf
variable {W w : World} {H : List HProp}
attribute [local irreducible] World.setCell World.alloc World.drew World.drewN Calls sat cel own blk old wpQuiet first size begins more SK val head value say BR run feed dec
theorem say_t (ad : Option Addr) (n cp : Nat) (l acc : List Int) (op : Nat) (h1 : (say l).1 = acc) (h2 : (say l).2 = op) (hl : SK .u8 W H ad n cp l) (hb : ∀ x ∈ l, 0 ≤ x ∧ x < 256) (hn100 : n ≤ 100000) (hs : sat W H w) :
    Calls Try.prog 19 #[.slice ad n cp] w fun e w' => ∃ a m c, m = acc.length ∧ m ≤ n ∧ e = .returned (.tuple #[.slice a m c, .int .i64 op]) ∧ sat W (own 21 1 (.slice a m c) m (runes acc) :: H) w' := by
  subst h1 h2; exact say19 ad n cp l hl hb hn100 hs
theorem decode12 (ad : Option Addr) (n cp : Nat) (l : List Int) (hl : SK .u8 W H ad n cp l) (hb : ∀ x ∈ l, 0 ≤ x ∧ x < 256) (hn : n ≤ 100000) (hs : sat W H w) : Calls Try.prog 12 #[.slice ad n cp] w (BR W H (dec l)) := by
  rw [dec_decode]
  obtain ⟨acc, h1⟩ : ∃ acc, (say l).1 = acc := ⟨_, rfl⟩
  obtain ⟨op, h2⟩ : ∃ op, (say l).2 = op := ⟨_, rfl⟩
  have H1 := Lib.hid h1
  have H2 := Lib.hid h2
  by_cases h : 0 < op
  · have HD : Hid (Utf.decode l = acc ++ [bad]) := Lib.hid (by unfold Utf.decode; rw [h1, h2, if_pos h])
    clear h1 h2
    go_enter Try.func12, Try.ntmps12
    go_wp2_with (first
    | (go_at_call 19; refine (say_t _ _ _ l acc op H1.out H2.out hl hb hn hs).mono ?_; clear hs; rintro e w ⟨a1, m1, c1, hm, hmn, rfl, hs⟩; have HM := Lib.hid hm; clear hm)
    | (apply app hs.b1; exact rfl; exact rfl; exact rfl; exact rfl; exact slty25; exact rfl; exact rfl; decide; omega; unfold maxLen; omega; clear hs; intro g' c' w hs)
    | (refine wrap hs ?_; clear hs; intro w hs)
    | (refine wrapn hs ?_; clear hs; intro w hs)
    | (refine wrapd hs ?_; clear hs; intro w hs))
    go_ret
    rw [HD.out]
    refine br_mk (n := m1 + 1) (by rw [List.length_append, HM.out]; rfl) ?_
    rw [show runes (acc ++ [bad]) = runes acc ++ runes [bad] from List.map_append]; exact hs
  · have HD : Hid (Utf.decode l = acc) := Lib.hid (by unfold Utf.decode; rw [h1, h2, if_neg h])
    obtain rfl : op = 0 := by omega
    clear h1 h2
    go_enter Try.func12, Try.ntmps12
    go_wp2_with (first
    | (go_at_call 19; refine (say_t _ _ _ l acc 0 H1.out H2.out hl hb hn hs).mono ?_; clear hs; rintro e w ⟨a1, m1, c1, hm, hmn, rfl, hs⟩; have HM := Lib.hid hm; clear hm)
    | (refine wrap hs ?_; clear hs; intro w hs)
    | (refine wrapn hs ?_; clear hs; intro w hs)
    | (refine wrapd hs ?_; clear hs; intro w hs))
    go_ret
    rw [HD.out]
    exact br_mk HM.out hs
theorem feed_t (b : Nat) (d : D) (x : Int) (e : D) (l : List Int) (h : feed d x = (e, l)) (h0 : 0 ≤ x) (h1 : x < 256) (hi : Inv d) (hs : sat W (cel b 38 (dL d) :: H) w) : Calls Try.prog 16 #[.pointer (some ⟨b, 0, none⟩), .int .u8 x] w (BR W (cel b 38 (dL e) :: H) l) := by
  have := feed16 b d x h0 h1 hi hs; rw [h] at this; exact this
theorem end_t (b : Nat) (d e : D) (l : List Int) (h1 : (if d.opn = 0 then d else .new) = e) (h2 : (if d.opn = 0 then [] else [bad]) = l) (hs : sat W (cel b 38 (dL d) :: H) w) : Calls Try.prog 17 #[.pointer (some ⟨b, 0, none⟩)] w (BR W (cel b 38 (dL e) :: H) l) := by
  have := end17 b d hs; rw [h1, h2] at this; exact this
theorem run_nil (d : D) : run d [] = (d, []) := by unfold run; rfl
theorem feed_len2 (d : D) (x : Int) : (feed d x).2.length ≤ 2 := by have := feed_len d x; have := busy_le d; omega
theorem run_take (l : List Int) (k : Nat) (x : Int) (hx : l[k]? = some x) (d : D) (acc : List Int) (h : run .new (l.take k) = (d, acc)) : run .new (l.take (k + 1)) = ((feed d x).1, acc ++ (feed d x).2) := by
  obtain ⟨hl, hg⟩ := List.getElem?_eq_some_iff.1 hx
  rw [List.take_succ_eq_append_getElem hl, hg, run_snoc, h]
theorem run_acc (l : List Int) (d : D) (acc : List Int) (h : run .new l = (d, acc)) : acc.length ≤ l.length := by
  have := run_len l .new
  rw [h] at this
  simp only at this
  have hb : busy D.new = 0 := by decide
  omega
set_option maxHeartbeats 4000000 in
theorem decode11 (ad : Option Addr) (n cp : Nat) (l : List Int) (hl : SK .u8 W H ad n cp l) (hb : ∀ x ∈ l, 0 ≤ x ∧ x < 256) (hn : n ≤ 100000) (hs : sat W H w) : Calls Try.prog 11 #[.slice ad n cp] w (BR W H (dec l)) := by
  have HE := Lib.hid (show n = l.length by unfold SK at hl; exact hl.1)
  have HL := Lib.hid hl
  have HB := Lib.hid hb
  clear hl hb
  go_enter Try.func11, Try.ntmps11
  go_wp2_with (first
    | (refine wrap hs ?_; clear hs; (first | generalize w.heap.size = z3); intro w hs)
    | (refine wrap hs ?_; clear hs; intro w hs)
    | (refine wrapn hs ?_; clear hs; intro w hs)
    | (refine wrapd hs ?_; clear hs; intro w hs))
  have hs := hs.b0.own_nil 21 1
  go_loopw [4, 6, 9] (fun sv _ iv wr => ∃ (k m : Nat) (a' : Option Addr) (c' : Nat) (d : D) (acc : List Int), k ≤ n ∧ m ≤ k ∧ sv = .slice a' m c' ∧ iv = .int .i64 k ∧ Hid (run .new (l.take k) = (d, acc)) ∧ Inv d ∧ Hid (m = acc.length) ∧ sat W (own 21 1 (.slice a' m c') m (runes acc) :: cel z3 38 (dL d) :: H) wr) (fun _ _ iv _ => n - (intOf iv).toNat)
  case atStart => exact ⟨0, 0, none, 0, .new, [], Nat.zero_le _, Nat.le_refl _, rfl, rfl, Lib.hid (run_nil _), new_Inv, rfl, hs⟩
  case round =>
    clear hs
    obtain ⟨k, m, a', c', d, acc, hk, hm, rfl, rfl, HR, hi, HM, hs⟩ := hrel
    by_cases hlt : k < n
    · obtain ⟨b, off, rfl⟩ := HL.out.ptr hs.drop.drop (by omega)
      obtain ⟨x, hx⟩ : ∃ x, l[k]? = some x := ⟨_, List.getElem?_eq_getElem (by rw [← HE.out]; exact hlt)⟩
      have CX := Lib.hid (HL.out.at k x hx)
      obtain ⟨x0, x1⟩ := HB.out x (List.mem_of_getElem? hx)
      have HR2 := run_take l k x hx d acc HR.out
      have hi2 := feed_Inv hi x
      have hl5 := feed_len2 d x
      obtain ⟨d2, o2, hf⟩ : ∃ d2 o2, feed d x = (d2, o2) := ⟨_, _, rfl⟩
      rw [hf] at HR2 hi2 hl5
      simp only at HR2 hi2 hl5
      have HI2 : Inv d2 := hi2
      have HF := Lib.hid hf
      have HL5 : Hid (o2.length ≤ 2) := Lib.hid hl5
      have HRR : Hid (run .new (l.take (k + 1)) = (d2, acc ++ o2)) := Lib.hid HR2
      have hm2 : m + o2.length ≤ k + 1 := by
        have := run_acc _ _ _ HR2
        rw [List.length_append, List.length_take, ← HM.out] at this
        omega
      have HM2 := Lib.hid hm2
      clear hx hf hi2 hl5 HR2 hm2
      as_aux_lemma =>
        go_wp2_with (first
    | (apply ldc; exact rfl; exact rfl; exact rfl; exact CX.out _ hs.drop.drop; kernel_rfl)
    | (go_at_call 16; refine (feed_t z3 d x d2 o2 HF.out x0 x1 hi hs.b1).mono ?_; clear hs; rintro e w hb; obtain ⟨a1, c1, rfl, hs⟩ := hb.elim; clear hb)
    | (apply appr hs.b2; exact rfl; exact rfl; exact rfl; exact rfl; exact slty25; exact hs.own_reads.1; exact runes_ok; (rw [List.length_map]; have := HL5.out; omega); (rw [List.length_map]; have := HL5.out; unfold maxLen; omega); clear hs; intro a5 c5 w hs; rw [List.length_map] at hs; rw [List.length_map]; replace hs := hs.b1.drop)
    | (refine wrap hs ?_; clear hs; intro w hs)
    | (refine wrapn hs ?_; clear hs; intro w hs)
    | (refine wrapd hs ?_; clear hs; intro w hs))
        go_roundw
        case rel => exact ⟨k + 1, m + o2.length, a5, c5, d2, acc ++ o2, by omega, HM2.out, rfl, by go_num, HRR, HI2, Lib.hid (by rw [List.length_append, HM.out]), by rw [show runes (acc ++ o2) = runes acc ++ runes o2 from List.map_append]; exact hs⟩
        case measure => simp [intOf]; omega
    · obtain ⟨d2, hd2⟩ : ∃ d2, (if d.opn = 0 then d else .new) = d2 := ⟨_, rfl⟩
      obtain ⟨o2, ho2⟩ : ∃ o2, (if d.opn = 0 then [] else [bad]) = o2 := ⟨_, rfl⟩
      have HD := Lib.hid hd2
      have HO := Lib.hid ho2
      have HL5 : Hid (o2.length ≤ 2) := Lib.hid (by rw [← ho2]; split <;> simp)
      have HDEC : Hid (dec l = acc ++ o2) := Lib.hid (by
        have h := HR.out
        rw [List.take_of_length_le (by rw [← HE.out]; omega)] at h
        unfold dec
        rw [h, ← ho2])
      clear hd2 ho2
      as_aux_lemma =>
        go_wp2_with (first
    | (go_at_call 17; refine (end_t z3 d d2 o2 HD.out HO.out hs.b1).mono ?_; clear hs; rintro e w hb; obtain ⟨a1, c1, rfl, hs⟩ := hb.elim; clear hb)
    | (apply appr hs.b2; exact rfl; exact rfl; exact rfl; exact rfl; exact slty25; exact hs.own_reads.1; exact runes_ok; (rw [List.length_map]; have := HL5.out; omega); (rw [List.length_map]; have := HL5.out; unfold maxLen; omega); clear hs; intro a5 c5 w hs; rw [List.length_map] at hs; rw [List.length_map]; replace hs := hs.b1.drop)
    | (refine wrap hs ?_; clear hs; intro w hs)
    | (refine wrapn hs ?_; clear hs; intro w hs)
    | (refine wrapd hs ?_; clear hs; intro w hs))
        go_ret
        rw [HDEC.out]
        refine br_mk (n := m + o2.length) (by rw [List.length_append, HM.out]) ?_
        rw [show runes (acc ++ o2) = runes acc ++ runes o2 from List.map_append]; exact hs.b1.drop
end Go.Proofs.Ytaajgkccannjlaa
