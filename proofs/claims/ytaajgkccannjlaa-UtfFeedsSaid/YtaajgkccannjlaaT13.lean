import Derived.Test.YtaajgkccannjlaaT12
namespace Go.Proofs.Ytaajgkccannjlaa
open Go.RowKit Go.Mem Go.Utf
variable {W w : World} {H : List HProp}
theorem feed_bd {d : D} (hi : Inv d) {x : Int} (h0 : 0 ≤ x) (h1 : x < 256) : ∀ y ∈ (feed d x).2, 0 ≤ y ∧ y < 2147483648 := by
  have hf : ∀ y ∈ (first x).2, 0 ≤ y ∧ y < 2147483648 := by
    intro y hy
    unfold first bad at hy
    (repeat' split at hy) <;> simp at hy <;> omega
  intro y hy
  unfold feed at hy
  split at hy
  · exact hf y hy
  · split at hy
    · simp only [List.mem_cons] at hy
      rcases hy with rfl | hy
      · decide
      · exact hf y hy
    · split at hy
      · simp at hy
      · simp only [List.mem_singleton] at hy
        rcases hi with h | ⟨a1, a2, a3, a4, a5, a6, a7, _⟩
        · omega
        · have : d.r < 131072 := by
            rcases (by omega : d.opn = 1 ∨ d.opn = 2 ∨ d.opn = 3) with h | h | h
            · have := a5 h; omega
            · have := a6 h; omega
            · exact a7 h
          omega
theorem run_bds : ∀ (l : List Int) (d : D), Inv d → (∀ x ∈ l, 0 ≤ x ∧ x < 256) → ∀ y ∈ (run d l).2, 0 ≤ y ∧ y < 2147483648
  | [], d, _, _ => by rw [run_nil]; simp
  | x :: l, d, hi, h => by
    have : run d (x :: l) = ((run (feed d x).1 l).1, (feed d x).2 ++ (run (feed d x).1 l).2) := by conv => lhs; unfold run
    rw [this]
    intro y hy
    rcases List.mem_append.1 hy with hy | hy
    · exact feed_bd hi (h x (by simp)).1 (h x (by simp)).2 y hy
    · exact run_bds l _ (feed_Inv hi x) (fun z hz => h z (List.mem_cons_of_mem _ hz)) y hy
theorem dec_bds (l : List Int) (h : ∀ x ∈ l, 0 ≤ x ∧ x < 256) : ∀ y ∈ dec l, 0 ≤ y ∧ y < 2147483648 := by
  intro y hy
  unfold dec at hy
  rcases List.mem_append.1 hy with hy | hy
  · exact run_bds l .new new_Inv h y hy
  · split at hy
    · simp at hy
    · simp at hy; rw [hy]; decide
theorem encs_len : ∀ (l : List Int), (l.flatMap enc).length ≤ 4 * l.length
  | [] => by simp
  | x :: l => by
    have := encs_len l
    have := enc_len x
    simp only [List.flatMap_cons, List.length_append, List.length_cons]; omega
theorem encs_byte (l : List Int) : ∀ x ∈ l.flatMap enc, 0 ≤ x ∧ x < 256 := by
  intro x hx
  obtain ⟨r, _, h⟩ := List.mem_flatMap.1 hx
  exact enc_byte r x h
theorem take_snoc {l : List Int} {k : Nat} {x : Int} (hx : l[k]? = some x) : l.take (k + 1) = l.take k ++ [x] := by
  obtain ⟨hl, hg⟩ := List.getElem?_eq_some_iff.1 hx
  rw [List.take_succ_eq_append_getElem hl, hg]
theorem fix_cases (r : Int) : (r < 0 ∧ bad = fix r) ∨ (0 ≤ r ∧ 1114111 < r ∧ bad = fix r) ∨ (0 ≤ r ∧ r ≤ 1114111 ∧ 55296 ≤ r ∧ r ≤ 57343 ∧ bad = fix r) ∨ (0 ≤ r ∧ r < 55296 ∧ r = fix r) ∨ (0 ≤ r ∧ r ≤ 1114111 ∧ 57343 < r ∧ r = fix r) := by
  by_cases h : valid r
  · have e : fix r = r := by unfold fix; rw [if_pos h]
    unfold valid at h
    rw [e]; omega
  · have e : fix r = bad := by unfold fix; rw [if_neg h]
    unfold valid at h
    rw [e]; omega
attribute [local irreducible] World.setCell World.alloc World.drew World.drewN Calls sat cel own blk old wpQuiet first size begins more SK val head value say BR EB run feed dec enc sI fix
theorem back_guard (ad ad2 : Option Addr) (n cp n2 cp2 : Nat) (h : 1000 < n ∨ (n ≤ 1000 ∧ 3000 < n2)) (hn : n ≤ maxLen) (hn2 : n2 ≤ maxLen) (hs : sat W H w) : Calls Try.prog 5 #[.slice ad n cp, .slice ad2 n2 cp2] w fun e w' => e = .returned (.bool true) ∧ sat W H w' := by
  unfold maxLen at hn hn2
  rcases h with h | ⟨h, g⟩
  all_goals
    go_enter Try.func5, Try.ntmps5
    go_wp2_with (first
    | (go_at_call 9; refine (known9 hs).mono ?_; clear hs; rintro e w ⟨rfl, hs⟩)
    | (refine wrap hs ?_; clear hs; intro w hs)
    | (refine wrapn hs ?_; clear hs; intro w hs)
    | (refine wrapd hs ?_; clear hs; intro w hs))
    go_ret
    exact ⟨rfl, hs⟩
set_option maxHeartbeats 8000000 in
theorem back_walk (w0 : World) (ad ad2 : Option Addr) (n cp n2 cp2 : Nat) (l m : List Int) (h : n ≤ 1000) (h2 : n2 ≤ 3000) (hl : SK .i32 W (old w0 :: H) ad n cp l) (hb : ∀ x ∈ l, -2147483648 ≤ x ∧ x < 2147483648)
    (hm : SK .u8 W (old w0 :: H) ad2 n2 cp2 m) (hb2 : ∀ x ∈ m, 0 ≤ x ∧ x < 256) (hs : sat W (old w0 :: H) w) : Calls Try.prog 5 #[.slice ad n cp, .slice ad2 n2 cp2] w fun e w' => e = .returned (.bool true) ∧ sat W (old w0 :: H) w' := by
  have HL := Lib.hid hl
  have HM := Lib.hid hm
  have HB := Lib.hid hb
  have HB2 := Lib.hid hb2
  have HB3 := Lib.hid (fun x hx => (hb2 x hx).1)
  have hnl : n = l.length := by unfold SK at hl; exact hl.1
  have hnm : n2 = m.length := by unfold SK at hm; exact hm.1
  have HE := Lib.hid hnl
  obtain ⟨all, hall⟩ : ∃ all, l.flatMap enc = all := ⟨_, rfl⟩
  have HA1 : Hid (all.length ≤ 100000) := Lib.hid (by rw [← hall]; have := encs_len l; omega)
  have HA2 : Hid (∀ x ∈ all, 0 ≤ x ∧ x < 256) := Lib.hid (by rw [← hall]; exact encs_byte l)
  have HA3 : Hid (dec all = l.map fix) := Lib.hid (by rw [← hall]; exact dec_encs l)
  have HALL := Lib.hid hall
  obtain ⟨out2, ho2⟩ : ∃ out2, dec m = out2 := ⟨_, rfl⟩
  have HO2 := Lib.hid ho2
  have HBD : Hid (∀ y ∈ out2, 0 ≤ y ∧ y < 2147483648) := Lib.hid (by rw [← ho2]; exact dec_bds m hb2)
  have HBACK : Hid (bad ∉ out2 → out2.flatMap enc = m) := Lib.hid (by rw [← ho2]; exact dec_back m (fun x hx => (hb2 x hx).1))
  obtain ⟨n3, hn3⟩ : ∃ n3, out2.length = n3 := ⟨_, rfl⟩
  have HN3 := Lib.hid hn3
  have hn3b : n3 ≤ 3000 := by have := dec_len m; rw [ho2] at this; omega
  have q1 := str_eq (rfl : sI m = sI m)
  clear hl hm hb hb2 hnl hnm hall ho2 hn3
  go_enter Try.func5, Try.ntmps5
  go_wp2_with (first
    | (refine wrap hs ?_; clear hs; intro w hs)
    | (refine wrapn hs ?_; clear hs; intro w hs)
    | (refine wrapd hs ?_; clear hs; intro w hs))
  have hs := (hs.own_nil 21 1).own_nil 5 1
  go_loopw [5, 6, 8, 9, 24] (fun av wv _ _ iv wr => ∃ (k q : Nat) (a1 : Option Addr) (c1 : Nat) (a2 : Option Addr) (c2 : Nat) (al : List Int), k ≤ n ∧ q ≤ 4 * k ∧ av = .slice a1 q c1 ∧ wv = .slice a2 k c2 ∧ iv = .int .i64 k ∧ Hid ((l.take k).flatMap enc = al) ∧ Hid (q = al.length) ∧ sat W (own 5 1 (.slice a1 q c1) q (bytes al) :: own 21 1 (.slice a2 k c2) k (runes ((l.take k).map fix)) :: old w0 :: H) wr) (fun _ _ _ _ iv _ => n - (intOf iv).toNat)
  case atStart => exact ⟨0, 0, none, 0, none, 0, [], Nat.zero_le _, Nat.le_refl _, rfl, rfl, rfl, Lib.hid rfl, rfl, hs⟩
  case round =>
    clear hs
    obtain ⟨k, q, a', c', a'', c'', al, hk, hq, rfl, rfl, rfl, HR, HQL, hs⟩ := hrel
    by_cases hlt : k < n
    · obtain ⟨b, off, rfl⟩ := HL.out.ptr hs.drop.drop (by omega)
      obtain ⟨r, hx⟩ : ∃ x, l[k]? = some x := ⟨_, List.getElem?_eq_getElem (by rw [← HE.out]; exact hlt)⟩
      have CX := Lib.hid (HL.out.at k r hx)
      obtain ⟨h0, h1⟩ := HB.out r (List.mem_of_getElem? hx)
      obtain ⟨out, ho⟩ : ∃ out, enc r = out := ⟨_, rfl⟩
      have HO := Lib.hid ho
      obtain ⟨qo, hqo⟩ : ∃ qo, out.length = qo := ⟨_, rfl⟩
      have HQ := Lib.hid hqo
      obtain ⟨qo1, qo4⟩ : 1 ≤ qo ∧ qo ≤ 4 := by have := enc_len r; rw [ho, hqo] at this; exact this
      have HR2 : Hid ((l.take (k + 1)).flatMap enc = al ++ out) := Lib.hid (by rw [take_snoc hx, List.flatMap_append, HR.out]; simp [ho])
      have HF : Hid (∀ y, y = fix r → (l.take (k + 1)).map fix = (l.take k).map fix ++ [y]) := Lib.hid (by rintro y rfl; rw [take_snoc hx]; simp)
      have hc := fix_cases r
      obtain ⟨W2, hW2⟩ : ∃ W2, (l.take (k + 1)).map fix = W2 := ⟨_, rfl⟩
      rw [hW2] at HF
      have HW2 := Lib.hid hW2
      clear hW2
      generalize (l.take k).map fix = W1 at *
      clear hx ho hqo
      rcases hc with ⟨g1, g9⟩ | ⟨g1, g2, g9⟩ | ⟨g1, g2, g3, g4, g9⟩ | ⟨g1, g2, g9⟩ | ⟨g1, g2, g3, g9⟩
      all_goals
        have HG := Lib.hid (HF.out _ g9)
        clear HF g9
        as_aux_lemma =>
          go_wp2_with (first
    | (apply ldc; exact rfl; exact rfl; exact rfl; exact CX.out _ hs.drop.drop; kernel_rfl)
    | (go_at_call 13; refine (encode_t r out HO.out h0 h1 hs).mono ?_; clear hs; rintro e w hb; obtain ⟨a1, c1, rfl, hs⟩ := hb.elim; clear hb; rw [HQ.out] at hs ⊢)
    | (apply apprm hs.b1; exact rfl; exact rfl; exact rfl; exact rfl; exact slty22; exact hs.own_reads.1; exact ints_ok; exact (List.length_map ..).trans HQ.out; omega; (unfold maxLen; omega); clear hs; intro a5 c5 w hs; replace hs := hs.b1.drop; rw [show bytes al ++ bytes out = bytes (al ++ out) from by simp] at hs)
    | (apply app hs.b2; exact rfl; exact rfl; exact rfl; exact rfl; exact slty25; exact rfl; exact rfl; decide; omega; unfold maxLen; omega; clear hs; intro a7 c7 w hs)
    | (refine wrap hs ?_; clear hs; intro w hs)
    | (refine wrapn hs ?_; clear hs; intro w hs)
    | (refine wrapd hs ?_; clear hs; intro w hs))
          go_roundw
          case rel => exact ⟨k + 1, q + qo, a5, c5, some ⟨a7, 0, none⟩, c7, al ++ out, by omega, by omega, rfl, rfl, by go_num, HR2, Lib.hid (by rw [List.length_append, HQ.out, HQL.out]), by rw [HW2.out, HG.out, show runes (W1 ++ [_]) = runes W1 ++ runes [_] from List.map_append]; exact hs.b1⟩
          case measure => simp [intOf]; omega
    · obtain rfl : k = n := by omega
      have HRL : Hid (al = all ∧ l.take k = l) := Lib.hid (by
        have e : l.take k = l := List.take_of_length_le (by rw [← HE.out]; exact Nat.le_refl _)
        exact ⟨by rw [← HR.out, e, HALL.out], e⟩)
      obtain ⟨rfl, e⟩ := HRL.out
      rw [e] at hs
      clear e HRL HR hlt hk
      generalize l.map fix = W1 at *
      go_wp2_with (first
    | (go_at_call 11; refine (decode_t al W1 HA3.out _ _ _ (SK.of_own hs) HA2.out (by rw [HQL.out]; exact HA1.out) hs).mono ?_; clear hs; rintro e w hb; obtain ⟨a10, c10, rfl, hs⟩ := hb.elim; clear hb; generalize W1.length = n4 at hs ⊢)
    | (go_at_call 10; refine (same_s _ _ W1 (hs.own_reads.1) (hs.b2.own_reads.1) hs).mono ?_; clear hs; rintro e w ⟨rfl, hs⟩; replace hs := hs.drop.drop.drop)
    | (go_at_call 11; refine (decode_t m out2 HO2.out _ _ _ HM.out HB2.out (by omega) hs).mono ?_; clear hs; rintro e w hb; obtain ⟨a11, c11, rfl, hs⟩ := hb.elim; clear hb; rw [HN3.out] at hs ⊢)
    | (refine wrap hs ?_; clear hs; intro w hs)
    | (refine wrapn hs ?_; clear hs; intro w hs)
    | (refine wrapd hs ?_; clear hs; intro w hs))
      have hs := hs.own_nil 5 1
      go_loopw [10, 12, 68] (fun av _ iv wr => ∃ (j q : Nat) (a1 : Option Addr) (c1 : Nat) (al : List Int), j ≤ n3 ∧ q ≤ 4 * j ∧ av = .slice a1 q c1 ∧ iv = .int .i64 j ∧ Hid ((out2.take j).flatMap enc = al) ∧ Hid (q = al.length) ∧ Hid (bad ∉ out2.take j) ∧ sat W (own 5 1 (.slice a1 q c1) q (bytes al) :: own 21 1 (.slice a11 n3 c11) n3 (runes out2) :: old w0 :: H) wr) (fun _ _ iv _ => n3 - (intOf iv).toNat)
      case atStart => exact ⟨0, 0, none, 0, [], Nat.zero_le _, Nat.le_refl _, rfl, rfl, Lib.hid rfl, rfl, Lib.hid (by simp), hs⟩
      case round =>
        clear hs
        obtain ⟨j, q2, a2, c2, al2, hj, hq2, rfl, rfl, HR, HQL2, HNB, hs⟩ := hrel
        by_cases hlt : j < n3
        · obtain ⟨g9, cc9, e9⟩ := hs.b1.own_some (by omega)
          cases e9
          obtain ⟨r, hx⟩ : ∃ x, out2[j]? = some x := ⟨_, List.getElem?_eq_getElem (by rw [HN3.out]; exact hlt)⟩
          have HX : Hid ((runes out2)[j]? = some (Value.int .i32 r)) := Lib.hid (by simp [hx])
          obtain ⟨h0', h1⟩ := HBD.out r (List.mem_of_getElem? hx)
          have h0 : -2147483648 ≤ r := by omega
          by_cases hbad : r = 65533
          · have HBB := Lib.hid hbad
            clear hx
            as_aux_lemma =>
              go_wp2_with (first
    | (apply ldo hs.b1; exact rfl; exact rfl; exact rfl; exact HX.out; kernel_rfl)
    | (go_at_call 9; refine (known9 hs).mono ?_; clear hs; rintro e w ⟨rfl, hs⟩)
    | (refine wrap hs ?_; clear hs; intro w hs)
    | (refine wrapn hs ?_; clear hs; intro w hs)
    | (refine wrapd hs ?_; clear hs; intro w hs))
              go_ret
              exact ⟨rfl, hs.drop.drop⟩
          · obtain ⟨out, ho⟩ : ∃ out, enc r = out := ⟨_, rfl⟩
            have HO := Lib.hid ho
            obtain ⟨qo, hqo⟩ : ∃ qo, out.length = qo := ⟨_, rfl⟩
            have HQ := Lib.hid hqo
            obtain ⟨qo1, qo4⟩ : 1 ≤ qo ∧ qo ≤ 4 := by have := enc_len r; rw [ho, hqo] at this; exact this
            have HR2 : Hid ((out2.take (j + 1)).flatMap enc = al2 ++ out) := Lib.hid (by rw [take_snoc hx, List.flatMap_append, HR.out]; simp [ho])
            have HNB2 : Hid (bad ∉ out2.take (j + 1)) := Lib.hid (by
              rw [take_snoc hx, List.mem_append, List.mem_singleton]
              rintro (h | h)
              · exact HNB.out h
              · exact hbad h.symm)
            clear hx ho hqo
            as_aux_lemma =>
              go_wp2_with (first
    | (apply ldo hs.b1; exact rfl; exact rfl; exact rfl; exact HX.out; kernel_rfl)
    | (go_at_call 13; refine (encode_t r out HO.out h0 h1 hs).mono ?_; clear hs; rintro e w hb; obtain ⟨a1, c1, rfl, hs⟩ := hb.elim; clear hb; rw [HQ.out] at hs ⊢)
    | (apply apprm hs.b1; exact rfl; exact rfl; exact rfl; exact rfl; exact slty22; exact hs.own_reads.1; exact ints_ok; exact (List.length_map ..).trans HQ.out; omega; (unfold maxLen; omega); clear hs; intro a5 c5 w hs; replace hs := hs.b1.drop; rw [show bytes al2 ++ bytes out = bytes (al2 ++ out) from by simp] at hs)
    | (refine wrap hs ?_; clear hs; intro w hs)
    | (refine wrapn hs ?_; clear hs; intro w hs)
    | (refine wrapd hs ?_; clear hs; intro w hs))
              go_roundw
              case rel => exact ⟨j + 1, q2 + qo, a5, c5, al2 ++ out, by omega, by omega, rfl, by go_num, HR2, Lib.hid (by rw [List.length_append, HQ.out, HQL2.out]), HNB2, hs⟩
              case measure => simp [intOf]; omega
        · have HFIN : Hid (al2 = m) := Lib.hid (by
            have h := HR.out
            have h4 := HNB.out
            rw [List.take_of_length_le (by rw [HN3.out]; omega)] at h h4
            rw [← h]; exact HBACK.out h4)
          obtain rfl := HFIN.out
          as_aux_lemma =>
            go_wp2_with (first
    | (apply cvI al2 HB3.out; exact rfl; exact rfl; exact rfl; exact Try.underlying22; exact Try.underlying5; exact Try.underlying9; first | exact hs.own_reads.1 | exact HM.out.more.more.reads hs)
    | (go_at_call 9; refine (known9 hs).mono ?_; clear hs; rintro e w ⟨rfl, hs⟩)
    | (refine wrap hs ?_; clear hs; intro w hs)
    | (refine wrapn hs ?_; clear hs; intro w hs)
    | (refine wrapd hs ?_; clear hs; intro w hs))
            go_ret
            exact ⟨rfl, hs.drop.drop⟩
theorem i32_wf {l : List Int} (h : ∀ x ∈ l, (Lit.int .i32 x).wf = true) : ∀ x ∈ l, -2147483648 ≤ x ∧ x < 2147483648 := fun x hx => i32_bd (h x hx)
theorem back_top (ad : Option Addr) (len cap : Nat) (zs : List Int) (ad2 : Option Addr) (len2 cap2 : Nat) (zs2 : List Int) (w : World) (hr : IsRow .i32 w ad len cap zs) (hr2 : IsRow .u8 w ad2 len2 cap2 zs2) :
    Calls Try.prog 5 #[.slice ad len cap, .slice ad2 len2 cap2] w fun e w' => e = .returned (.bool true) ∧ Below w.heap.size w w' := by
  obtain ⟨l, hl, hw, hsl⟩ := sk_of_row hr
  obtain ⟨m, hm, hw2, hsl2⟩ := sk_of_row hr2
  have t1 := hsl w []
  have t2 := hsl2 w []
  by_cases h : 1000 < len ∨ (len ≤ 1000 ∧ 3000 < len2)
  · exact (back_guard ad ad2 len cap len2 cap2 h (by unfold SK at t1; omega) (by unfold SK at t2; omega) (sat.start w)).mono fun _ _ ⟨he, hs⟩ => ⟨he, hs.below⟩
  · exact (back_walk w ad ad2 len cap len2 cap2 l m (by omega) (by omega) t1 (i32_wf hw) t2 (bytes_wf hw2) (sat.start w)).mono fun _ _ ⟨he, hs⟩ => ⟨he, hs.below⟩
end Go.Proofs.Ytaajgkccannjlaa
