import Derived.Test.YtpgnallldehgmaaD9
namespace Go.Proofs.Ytpgnallldehgmaa
open Go.RowKit Go.Mem Go.Dots
variable {W w : World} {H : List HProp}
theorem len_txt (l : List Nat) (h : ∀ x ∈ l, x < 256) : l.length ≤ (txt l).length := by
  have : 2 * l.length ≤ (sepTxt l).length := by
    induction l with
    | nil => exact Nat.le_refl _
    | cons c l ih =>
      have h1 := ih (fun x hx => h x (List.mem_cons_of_mem _ hx))
      have h2 := List.length_pos_iff.2 (cellTxt_ne c (h c (List.mem_cons_self ..)))
      show _ ≤ ((45 :: cellTxt c) ++ sepTxt l).length
      rw [List.length_append, List.length_cons, List.length_cons]; omega
  unfold txt; rw [List.length_tail]; omega
theorem parse_back {s : ByteArray} {l : List Nat} (h : Dots.parse (by_ s) = some l) : bs (txt l) = s ∧ (∀ x ∈ l, x < 256) ∧ l.length ≤ s.size := by
  have e := txt_parse h
  refine ⟨by rw [e, bs_by], parse_bound h, ?_⟩
  have := len_txt l (parse_bound h)
  rw [e, by_size] at this; exact this
theorem read_back {s : ByteArray} {l : List Nat} (h : Dots.read (by_ s) = some l) : bs (showB l) = s ∧ (∀ x ∈ l, x < 256) ∧ l.length ≤ s.size := by
  obtain ⟨e, hb⟩ := show_read _ _ h
  refine ⟨by rw [e, bs_by], hb, ?_⟩
  have := show_len l
  rw [e, by_size] at this; omega
theorem show_append (l m : List Nat) : showB (l ++ m) = showB l ++ showB m := by unfold showB; simp
theorem both_lt {l m : List Nat} (hl : ∀ x ∈ l, x < 256) (hm : ∀ x ∈ m, x < 256) : ∀ x ∈ l ++ m, x < 256 := by
  intro x hx; rcases List.mem_append.1 hx with h | h
  · exact hl x h
  · exact hm x h
attribute [local irreducible] World.setCell World.alloc World.drew World.drewN Calls sat cel own blk old wpQuiet bs by_ cellTxt txt showB si Dots.rparse Dots.parse Dots.read RP
theorem text_s (l : List Nat) (s : ByteArray) (he : bs (txt l) = s) (hl : ∀ x ∈ l, x < 256) (hlen : l.length ≤ 1000) (v : Value) (hr : ∀ w', sat W H w' → Reads w' v (nums .u8 l)) (hs : sat W H w) :
    Calls Try.prog 10 #[v] w fun e w' => e = .returned (.string s) ∧ sat W H w' := he ▸ text10 l hl hlen v hr hs
theorem show_s (l : List Nat) (s : ByteArray) (he : bs (showB l) = s) (hl : ∀ x ∈ l, x < 256) (hlen : l.length ≤ 1000) (v : Value) (hr : ∀ w', sat W H w' → Reads w' v (nums .u8 l)) (hs : sat W H w) :
    Calls Try.prog 11 #[v] w fun e w' => e = .returned (.string s) ∧ sat W H w' := he ▸ show11 l hl hlen v hr hs
/-- The first half: whatever is parsed, the statement goes on with what is had. -/
theorem only_guard (s : ByteArray) (a1 a2 : Option Addr) (n1 c1 n2 c2 : Nat) (h : 500 < s.size ∨ 200 < n1 ∨ 200 < n2) (h1 : n1 ≤ maxLen) (h2 : n2 ≤ maxLen) (hs : sat W H w) :
    Calls Try.prog 6 #[.string s, .slice a1 n1 c1, .slice a2 n2 c2] w fun e w' => e = .returned (.bool true) ∧ sat W H w' := by
  unfold maxLen at h1 h2
  have hh : 500 < s.size ∨ (s.size ≤ 500 ∧ 200 < n1) ∨ (s.size ≤ 500 ∧ n1 ≤ 200 ∧ 200 < n2) := by omega
  clear h
  rcases hh with h | ⟨h, g⟩ | ⟨h, g, g2⟩
  all_goals
    go_enter Try.func6, Try.ntmps6
    go_wp2_with (first
    | (go_at_call 9; refine (known9 hs).mono ?_; clear hs; rintro e w ⟨rfl, hs⟩)
    | (refine wrap hs ?_; clear hs; intro w hs)
    | (refine wrapn hs ?_; clear hs; intro w hs)
    | (refine wrapd hs ?_; clear hs; intro w hs))
    go_ret
    exact ⟨rfl, hs⟩
set_option maxHeartbeats 4000000 in
theorem only_walk (s : ByteArray) (hsz : s.size ≤ 500) (l m : List Nat) (hl : ∀ x ∈ l, x < 256) (hm : ∀ x ∈ m, x < 256) (hlen : l.length ≤ 200) (hlen2 : m.length ≤ 200) (ad1 ad2 : Option Addr) (cap1 cap2 : Nat) (w0 : World)
    (hr1 : Reads w0 (.slice ad1 l.length cap1) (nums .u8 l)) (hr2 : Reads w0 (.slice ad2 m.length cap2) (nums .u8 m)) (hs : sat W (old w0 :: H) w) :
    Calls Try.prog 6 #[.string s, .slice ad1 l.length cap1, .slice ad2 m.length cap2] w fun e w' => e = .returned (.bool true) ∧ sat W (old w0 :: H) w' := by
  have h10 : s.size ≤ 10000 := by omega
  have HB := Lib.hid (both_lt hl hm)
  have HR1 := Lib.hid hr1
  have HR2 := Lib.hid hr2
  have HL := Lib.hid hl
  have HM := Lib.hid hm
  have t1 := (txt_facts l hl (by omega)).1
  have t2 := (txt_facts m hm (by omega)).1
  have s1 := (show_facts l hl (by omega)).1
  have s2 := (show_facts m hm (by omega)).1
  have z0 : (ByteArray.mk #[45]).size = 1 := rfl
  have z1 : ¬ 9223372036854775807 < (bs (txt l)).size + (ByteArray.mk #[45]).size := by omega
  have z2 : ¬ 9223372036854775807 < (bs (txt l) ++ ByteArray.mk #[45]).size + (bs (txt m)).size := by rw [ByteArray.size_append]; omega
  have z3 : ¬ 9223372036854775807 < (bs (showB l)).size + (bs (showB m)).size := by omega
  have y1 := str_eq (show bs (showB (l ++ m)) = bs (showB l) ++ bs (showB m) by rw [show_append, bs_append])
  have HT : Hid (l ≠ [] → m ≠ [] → ((bs (txt (l ++ m))).toList == (bs (txt l) ++ ByteArray.mk #[45] ++ bs (txt m)).toList) = true) := Lib.hid fun h1 h2 => str_eq (by
    rw [txt_append l m h1 h2, bs_append, ByteArray.append_assoc]; congr 1; rw [show ByteArray.mk #[45] = bs [45] from (bs_one 45).symm, ← bs_append]; rfl)
  clear t1 t2 s1 s2 z0 hl hm hr1 hr2
  have HE : Hid (l.length ≠ 0 → l ≠ []) := Lib.hid fun h e => h (by rw [e]; rfl)
  have HE2 : Hid (m.length ≠ 0 → m ≠ []) := Lib.hid fun h e => h (by rw [e]; rfl)
  have HA : Hid ((l ++ m).length ≤ 400) := Lib.hid (by simp; omega)
  generalize hn : l.length = n1 at *
  have HN1 := Lib.hid hn
  clear hn
  generalize hn : m.length = n2 at *
  have HN2 := Lib.hid hn
  clear hn
  have HAP := Lib.hid (nums_append .u8 l m)
  by_cases g1 : 0 < n1
  all_goals
    by_cases g2 : 0 < n2
    all_goals
      have HT2 := Lib.hid (fun (h1 : 0 < n1) (h2 : 0 < n2) => HT.out (HE.out (by omega)) (HE2.out (by omega)))
      cases hp : Dots.parse (by_ s) with
      | none =>
        have HP := Lib.hid hp
        clear hp
        cases hr : Dots.read (by_ s) with
        | none =>
          have HR := Lib.hid hr
          clear hr
          first | have y2 := HT2.out g1 g2 | skip
          go_enter Try.func6, Try.ntmps6
          go_wp2_with (first
    | (go_at_call 12; refine (parse_n s h10 HP.out hs).mono ?_; clear hs; rintro e w ⟨a1, c1, rfl, hs⟩; replace hs := hs.drop)
    | (go_at_call 13; refine (read_n s h10 HR.out hs).mono ?_; clear hs; rintro e w ⟨a3, c3, rfl, hs⟩; replace hs := hs.drop)
    | (apply appf hs; exact rfl; exact rfl; exact rfl; exact rfl; exact slty28; exact hs.drop.old_reads HR1.out; exact nums_one; (rw [nums_length, HN1.out]); omega; clear hs; intro a5 c5 w hs)
    | (apply apprm hs; exact rfl; exact rfl; exact rfl; exact rfl; exact slty28; exact hs.drop.old_reads HR2.out; exact nums_one; (rw [nums_length, HN2.out]); omega; (unfold maxLen; omega); clear hs; intro a6 c6 w hs; rw [← HAP.out] at hs)
    | (go_at_call 10; refine (text_s (l ++ m) _ rfl HB.out (by have := HA.out; omega) _ (fun w' h => h.own_reads.1) hs).mono ?_; clear hs; rintro e w ⟨rfl, hs⟩)
    | (go_at_call 10; refine (text_s l _ rfl HL.out (by rw [HN1.out]; omega) _ (fun w' h => h.drop.old_reads HR1.out) hs).mono ?_; clear hs; rintro e w ⟨rfl, hs⟩)
    | (go_at_call 10; refine (text_s m _ rfl HM.out (by rw [HN2.out]; omega) _ (fun w' h => h.drop.old_reads HR2.out) hs).mono ?_; clear hs; rintro e w ⟨rfl, hs⟩)
    | (go_at_call 11; refine (show_s (l ++ m) _ rfl HB.out (by have := HA.out; omega) _ (fun w' h => h.own_reads.1) hs).mono ?_; clear hs; rintro e w ⟨rfl, hs⟩)
    | (go_at_call 11; refine (show_s l _ rfl HL.out (by rw [HN1.out]; omega) _ (fun w' h => h.drop.old_reads HR1.out) hs).mono ?_; clear hs; rintro e w ⟨rfl, hs⟩)
    | (go_at_call 11; refine (show_s m _ rfl HM.out (by rw [HN2.out]; omega) _ (fun w' h => h.drop.old_reads HR2.out) hs).mono ?_; clear hs; rintro e w ⟨rfl, hs⟩)
    | (go_at_call 9; refine (known9 hs).mono ?_; clear hs; rintro e w ⟨rfl, hs⟩)
    | (refine wrap hs ?_; clear hs; intro w hs)
    | (refine wrapn hs ?_; clear hs; intro w hs)
    | (refine wrapd hs ?_; clear hs; intro w hs))
          go_ret
          exact ⟨rfl, hs.drop⟩
        | some q =>
          have HR := Lib.hid hr
          have HRB := Lib.hid (read_back hr)
          clear hr
          first | have y2 := HT2.out g1 g2 | skip
          go_enter Try.func6, Try.ntmps6
          go_wp2_with (first
    | (go_at_call 12; refine (parse_n s h10 HP.out hs).mono ?_; clear hs; rintro e w ⟨a1, c1, rfl, hs⟩; replace hs := hs.drop)
    | (go_at_call 13; refine (read_s s q _ h10 HR.out rfl hs).mono ?_; clear hs; rintro e w ⟨a3, c3, rfl, hs⟩)
    | (go_at_call 11; refine (show_s q s HRB.out.1 HRB.out.2.1 (by have := HRB.out.2.2; omega) _ (fun w' h => h.own_reads.1) hs).mono ?_; clear hs; rintro e w ⟨rfl, hs⟩; replace hs := hs.drop)
    | (apply appf hs; exact rfl; exact rfl; exact rfl; exact rfl; exact slty28; exact hs.drop.old_reads HR1.out; exact nums_one; (rw [nums_length, HN1.out]); omega; clear hs; intro a5 c5 w hs)
    | (apply apprm hs; exact rfl; exact rfl; exact rfl; exact rfl; exact slty28; exact hs.drop.old_reads HR2.out; exact nums_one; (rw [nums_length, HN2.out]); omega; (unfold maxLen; omega); clear hs; intro a6 c6 w hs; rw [← HAP.out] at hs)
    | (go_at_call 10; refine (text_s (l ++ m) _ rfl HB.out (by have := HA.out; omega) _ (fun w' h => h.own_reads.1) hs).mono ?_; clear hs; rintro e w ⟨rfl, hs⟩)
    | (go_at_call 10; refine (text_s l _ rfl HL.out (by rw [HN1.out]; omega) _ (fun w' h => h.drop.old_reads HR1.out) hs).mono ?_; clear hs; rintro e w ⟨rfl, hs⟩)
    | (go_at_call 10; refine (text_s m _ rfl HM.out (by rw [HN2.out]; omega) _ (fun w' h => h.drop.old_reads HR2.out) hs).mono ?_; clear hs; rintro e w ⟨rfl, hs⟩)
    | (go_at_call 11; refine (show_s (l ++ m) _ rfl HB.out (by have := HA.out; omega) _ (fun w' h => h.own_reads.1) hs).mono ?_; clear hs; rintro e w ⟨rfl, hs⟩)
    | (go_at_call 11; refine (show_s l _ rfl HL.out (by rw [HN1.out]; omega) _ (fun w' h => h.drop.old_reads HR1.out) hs).mono ?_; clear hs; rintro e w ⟨rfl, hs⟩)
    | (go_at_call 11; refine (show_s m _ rfl HM.out (by rw [HN2.out]; omega) _ (fun w' h => h.drop.old_reads HR2.out) hs).mono ?_; clear hs; rintro e w ⟨rfl, hs⟩)
    | (go_at_call 9; refine (known9 hs).mono ?_; clear hs; rintro e w ⟨rfl, hs⟩)
    | (refine wrap hs ?_; clear hs; intro w hs)
    | (refine wrapn hs ?_; clear hs; intro w hs)
    | (refine wrapd hs ?_; clear hs; intro w hs))
          go_ret
          exact ⟨rfl, hs.drop⟩
      | some p =>
        have HP := Lib.hid hp
        have HPB := Lib.hid (parse_back hp)
        clear hp
        cases hr : Dots.read (by_ s) with
        | none =>
          have HR := Lib.hid hr
          clear hr
          first | have y2 := HT2.out g1 g2 | skip
          go_enter Try.func6, Try.ntmps6
          go_wp2_with (first
    | (go_at_call 12; refine (parse_s s p _ h10 HP.out rfl hs).mono ?_; clear hs; rintro e w ⟨a1, c1, rfl, hs⟩)
    | (go_at_call 10; refine (text_s p s HPB.out.1 HPB.out.2.1 (by have := HPB.out.2.2; omega) _ (fun w' h => h.own_reads.1) hs).mono ?_; clear hs; rintro e w ⟨rfl, hs⟩; replace hs := hs.drop)
    | (go_at_call 13; refine (read_n s h10 HR.out hs).mono ?_; clear hs; rintro e w ⟨a3, c3, rfl, hs⟩; replace hs := hs.drop)
    | (apply appf hs; exact rfl; exact rfl; exact rfl; exact rfl; exact slty28; exact hs.drop.old_reads HR1.out; exact nums_one; (rw [nums_length, HN1.out]); omega; clear hs; intro a5 c5 w hs)
    | (apply apprm hs; exact rfl; exact rfl; exact rfl; exact rfl; exact slty28; exact hs.drop.old_reads HR2.out; exact nums_one; (rw [nums_length, HN2.out]); omega; (unfold maxLen; omega); clear hs; intro a6 c6 w hs; rw [← HAP.out] at hs)
    | (go_at_call 10; refine (text_s (l ++ m) _ rfl HB.out (by have := HA.out; omega) _ (fun w' h => h.own_reads.1) hs).mono ?_; clear hs; rintro e w ⟨rfl, hs⟩)
    | (go_at_call 10; refine (text_s l _ rfl HL.out (by rw [HN1.out]; omega) _ (fun w' h => h.drop.old_reads HR1.out) hs).mono ?_; clear hs; rintro e w ⟨rfl, hs⟩)
    | (go_at_call 10; refine (text_s m _ rfl HM.out (by rw [HN2.out]; omega) _ (fun w' h => h.drop.old_reads HR2.out) hs).mono ?_; clear hs; rintro e w ⟨rfl, hs⟩)
    | (go_at_call 11; refine (show_s (l ++ m) _ rfl HB.out (by have := HA.out; omega) _ (fun w' h => h.own_reads.1) hs).mono ?_; clear hs; rintro e w ⟨rfl, hs⟩)
    | (go_at_call 11; refine (show_s l _ rfl HL.out (by rw [HN1.out]; omega) _ (fun w' h => h.drop.old_reads HR1.out) hs).mono ?_; clear hs; rintro e w ⟨rfl, hs⟩)
    | (go_at_call 11; refine (show_s m _ rfl HM.out (by rw [HN2.out]; omega) _ (fun w' h => h.drop.old_reads HR2.out) hs).mono ?_; clear hs; rintro e w ⟨rfl, hs⟩)
    | (go_at_call 9; refine (known9 hs).mono ?_; clear hs; rintro e w ⟨rfl, hs⟩)
    | (refine wrap hs ?_; clear hs; intro w hs)
    | (refine wrapn hs ?_; clear hs; intro w hs)
    | (refine wrapd hs ?_; clear hs; intro w hs))
          go_ret
          exact ⟨rfl, hs.drop⟩
        | some q =>
          have HR := Lib.hid hr
          have HRB := Lib.hid (read_back hr)
          clear hr
          first | have y2 := HT2.out g1 g2 | skip
          go_enter Try.func6, Try.ntmps6
          go_wp2_with (first
    | (go_at_call 12; refine (parse_s s p _ h10 HP.out rfl hs).mono ?_; clear hs; rintro e w ⟨a1, c1, rfl, hs⟩)
    | (go_at_call 10; refine (text_s p s HPB.out.1 HPB.out.2.1 (by have := HPB.out.2.2; omega) _ (fun w' h => h.own_reads.1) hs).mono ?_; clear hs; rintro e w ⟨rfl, hs⟩; replace hs := hs.drop)
    | (go_at_call 13; refine (read_s s q _ h10 HR.out rfl hs).mono ?_; clear hs; rintro e w ⟨a3, c3, rfl, hs⟩)
    | (go_at_call 11; refine (show_s q s HRB.out.1 HRB.out.2.1 (by have := HRB.out.2.2; omega) _ (fun w' h => h.own_reads.1) hs).mono ?_; clear hs; rintro e w ⟨rfl, hs⟩; replace hs := hs.drop)
    | (apply appf hs; exact rfl; exact rfl; exact rfl; exact rfl; exact slty28; exact hs.drop.old_reads HR1.out; exact nums_one; (rw [nums_length, HN1.out]); omega; clear hs; intro a5 c5 w hs)
    | (apply apprm hs; exact rfl; exact rfl; exact rfl; exact rfl; exact slty28; exact hs.drop.old_reads HR2.out; exact nums_one; (rw [nums_length, HN2.out]); omega; (unfold maxLen; omega); clear hs; intro a6 c6 w hs; rw [← HAP.out] at hs)
    | (go_at_call 10; refine (text_s (l ++ m) _ rfl HB.out (by have := HA.out; omega) _ (fun w' h => h.own_reads.1) hs).mono ?_; clear hs; rintro e w ⟨rfl, hs⟩)
    | (go_at_call 10; refine (text_s l _ rfl HL.out (by rw [HN1.out]; omega) _ (fun w' h => h.drop.old_reads HR1.out) hs).mono ?_; clear hs; rintro e w ⟨rfl, hs⟩)
    | (go_at_call 10; refine (text_s m _ rfl HM.out (by rw [HN2.out]; omega) _ (fun w' h => h.drop.old_reads HR2.out) hs).mono ?_; clear hs; rintro e w ⟨rfl, hs⟩)
    | (go_at_call 11; refine (show_s (l ++ m) _ rfl HB.out (by have := HA.out; omega) _ (fun w' h => h.own_reads.1) hs).mono ?_; clear hs; rintro e w ⟨rfl, hs⟩)
    | (go_at_call 11; refine (show_s l _ rfl HL.out (by rw [HN1.out]; omega) _ (fun w' h => h.drop.old_reads HR1.out) hs).mono ?_; clear hs; rintro e w ⟨rfl, hs⟩)
    | (go_at_call 11; refine (show_s m _ rfl HM.out (by rw [HN2.out]; omega) _ (fun w' h => h.drop.old_reads HR2.out) hs).mono ?_; clear hs; rintro e w ⟨rfl, hs⟩)
    | (go_at_call 9; refine (known9 hs).mono ?_; clear hs; rintro e w ⟨rfl, hs⟩)
    | (refine wrap hs ?_; clear hs; intro w hs)
    | (refine wrapn hs ?_; clear hs; intro w hs)
    | (refine wrapd hs ?_; clear hs; intro w hs))
          go_ret
          exact ⟨rfl, hs.drop⟩
theorem only_top (s : ByteArray) (a1 : Option Addr) (len1 cap1 : Nat) (z1 : List Int) (a2 : Option Addr) (len2 cap2 : Nat) (z2 : List Int) (w : World) (w1 : IsRow .u8 w a1 len1 cap1 z1) (w2 : IsRow .u8 w a2 len2 cap2 z2) :
    Calls Try.prog 6 #[.string s, .slice a1 len1 cap1, .slice a2 len2 cap2] w fun e w' => e = .returned (.bool true) ∧ Below w.heap.size w w' := by
  obtain ⟨xs, rfl, hx⟩ := w1.args
  obtain ⟨ys, rfl, hy⟩ := w2.args
  by_cases h : 500 < s.size ∨ 200 < xs.length ∨ 200 < ys.length
  · exact (only_guard s a1 a2 _ cap1 _ cap2 h hx.len hy.len (sat.start w)).mono fun e w' ⟨he, hs⟩ => ⟨he, hs.below⟩
  · obtain ⟨l, hl, hb, hr⟩ := hx.bytes cap1
    obtain ⟨m, hm, hb2, hr2⟩ := hy.bytes cap2
    rw [← hl, ← hm] at h ⊢
    exact (only_walk s (by omega) l m hb hb2 (by omega) (by omega) a1 a2 cap1 cap2 w hr hr2 (sat.start w)).mono fun e w' ⟨he, hs⟩ => ⟨he, hs.below⟩
end Go.Proofs.Ytpgnallldehgmaa
