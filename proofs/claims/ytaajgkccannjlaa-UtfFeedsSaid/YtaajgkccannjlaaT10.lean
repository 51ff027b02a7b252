import Derived.Test.YtaajgkccannjlaaT9
namespace Go.Proofs.Ytaajgkccannjlaa
open Go.RowKit Go.Mem Go.Utf
variable {W w : World} {H : List HProp}
attribute [local irreducible] World.setCell World.alloc World.drew World.drewN Calls sat cel own blk old wpQuiet first size begins more SK val head value say BR EB run feed dec enc sI
theorem decodes_guard (ad : Option Addr) (n cp : Nat) (h : 3000 < n) (hn : n ≤ maxLen) (hs : sat W H w) : Calls Try.prog 3 #[.slice ad n cp] w fun e w' => e = .returned (.bool true) ∧ sat W H w' := by
  unfold maxLen at hn
  go_enter Try.func3, Try.ntmps3
  go_wp2_with (first
    | (go_at_call 9; refine (known9 hs).mono ?_; clear hs; rintro e w ⟨rfl, hs⟩)
    | (refine wrap hs ?_; clear hs; intro w hs)
    | (refine wrapn hs ?_; clear hs; intro w hs)
    | (refine wrapd hs ?_; clear hs; intro w hs))
  go_ret
  exact ⟨rfl, hs⟩
set_option maxHeartbeats 4000000 in
theorem decodes_walk (w0 : World) (ad : Option Addr) (n cp : Nat) (l : List Int) (h : n ≤ 3000) (hl : SK .u8 W (old w0 :: H) ad n cp l) (hb : ∀ x ∈ l, 0 ≤ x ∧ x < 256) (hs : sat W (old w0 :: H) w) : Calls Try.prog 3 #[.slice ad n cp] w fun e w' => e = .returned (.bool true) ∧ sat W (old w0 :: H) w' := by
  have HL := Lib.hid hl
  have HB := Lib.hid hb
  have HB0 := Lib.hid (fun x hx => (hb x hx).1)
  have HLn := Lib.hid (show (bytes l).length = n by unfold SK at hl; rw [List.length_map, hl.1])
  obtain ⟨out, ho⟩ : ∃ out, dec l = out := ⟨_, rfl⟩
  have HO := Lib.hid ho
  clear hl hb ho
  have q1 := str_eq (rfl : sI l = sI l)
  go_enter Try.func3, Try.ntmps3
  go_wp2_with (first
    | (apply appf hs; exact rfl; exact rfl; exact rfl; exact rfl; exact slty22; exact HL.out.more.reads hs; exact ints_ok; exact HLn.out; omega; clear hs; intro a5 c5 w hs)
    | (go_at_call 11; refine (decode_t l out HO.out _ _ _ (SK.of_own hs) HB.out (by omega) hs).mono ?_; clear hs; rintro e w hb; obtain ⟨a1, c1, rfl, hs⟩ := hb.elim; clear hb)
    | (go_at_call 12; refine (rdecode_t l out HO.out _ _ _ HL.out.more.more HB.out (by omega) hs).mono ?_; clear hs; rintro e w hb; obtain ⟨a1, c1, rfl, hs⟩ := hb.elim; clear hb)
    | (go_at_call 10; refine (same_s _ _ out (hs.b1.own_reads.1) (hs.own_reads.1) hs).mono ?_; clear hs; rintro e w ⟨rfl, hs⟩; replace hs := hs.drop.drop)
    | (apply cvI l HB0.out; exact rfl; exact rfl; exact rfl; exact Try.underlying22; exact Try.underlying5; exact Try.underlying9; first | exact hs.own_reads.1 | exact HL.out.more.reads hs)
    | (go_at_call 9; refine (known9 hs).mono ?_; clear hs; rintro e w ⟨rfl, hs⟩)
    | (refine wrap hs ?_; clear hs; intro w hs)
    | (refine wrapn hs ?_; clear hs; intro w hs)
    | (refine wrapd hs ?_; clear hs; intro w hs))
  go_ret
  exact ⟨rfl, hs.drop⟩
theorem bytes_wf {l : List Int} (h : ∀ x ∈ l, (Lit.int .u8 x).wf = true) : ∀ x ∈ l, 0 ≤ x ∧ x < 256 := fun x hx => by
  have := h x hx
  simp [Lit.wf, IntKind.min, IntKind.max, IntKind.signed, IntKind.bits] at this
  omega
theorem decodes_top (ad : Option Addr) (len cap : Nat) (zs : List Int) (w : World) (hr : IsRow .u8 w ad len cap zs) : Calls Try.prog 3 #[.slice ad len cap] w fun e w' => e = .returned (.bool true) ∧ Below w.heap.size w w' := by
  obtain ⟨l, hl, hw, hsl⟩ := sk_of_row hr
  have t1 := hsl w []
  by_cases h : 3000 < len
  · exact (decodes_guard ad len cap h (by unfold SK at t1; omega) (sat.start w)).mono fun _ _ ⟨he, hs⟩ => ⟨he, hs.below⟩
  · exact (decodes_walk w ad len cap l (by omega) t1 (bytes_wf hw) (sat.start w)).mono fun _ _ ⟨he, hs⟩ => ⟨he, hs.below⟩
/-! ## Anew -/
theorem anew_guard (ad ad2 : Option Addr) (n cp n2 cp2 : Nat) (c : Int) (h : 1000 < n ∨ (n ≤ 1000 ∧ 1000 < n2)) (hn : n ≤ maxLen) (hn2 : n2 ≤ maxLen) (hs : sat W H w) : Calls Try.prog 6 #[.slice ad n cp, .int .u8 c, .slice ad2 n2 cp2] w fun e w' => e = .returned (.bool true) ∧ sat W H w' := by
  unfold maxLen at hn hn2
  rcases h with h | ⟨h, g⟩
  all_goals
    go_enter Try.func6, Try.ntmps6
    go_wp2_with (first
    | (go_at_call 9; refine (known9 hs).mono ?_; clear hs; rintro e w ⟨rfl, hs⟩)
    | (refine wrap hs ?_; clear hs; intro w hs)
    | (refine wrapn hs ?_; clear hs; intro w hs)
    | (refine wrapd hs ?_; clear hs; intro w hs))
    go_ret
    exact ⟨rfl, hs⟩
set_option maxHeartbeats 8000000 in
theorem anew_walk (w0 : World) (ad ad2 : Option Addr) (n cp n2 cp2 : Nat) (l m : List Int) (c : Int) (c0 : 0 ≤ c) (c1 : c < 256) (h : n ≤ 1000) (h2 : n2 ≤ 1000) (hl : SK .u8 W (old w0 :: H) ad n cp l) (hb : ∀ x ∈ l, 0 ≤ x ∧ x < 256)
    (hm : SK .u8 W (old w0 :: H) ad2 n2 cp2 m) (hb2 : ∀ x ∈ m, 0 ≤ x ∧ x < 256) (hs : sat W (old w0 :: H) w) : Calls Try.prog 6 #[.slice ad n cp, .int .u8 c, .slice ad2 n2 cp2] w fun e w' => e = .returned (.bool true) ∧ sat W (old w0 :: H) w' := by
  have HL := Lib.hid hl
  have HM := Lib.hid hm
  have HB := Lib.hid hb
  have HB2 := Lib.hid hb2
  have hnl : n = l.length := by unfold SK at hl; exact hl.1
  have hnm : n2 = m.length := by unfold SK at hm; exact hm.1
  have HLn := Lib.hid (show (bytes l).length = n by rw [List.length_map, hnl])
  have HMn := Lib.hid (show (bytes m).length = n2 by rw [List.length_map, hnm])
  obtain ⟨xa, ha⟩ : ∃ out, dec l = out := ⟨_, rfl⟩
  obtain ⟨xb, hbb⟩ : ∃ out, dec m = out := ⟨_, rfl⟩
  have HXA := Lib.hid ha
  have HXB := Lib.hid hbb
  have m7 : bits .and .u8 c 127 = c % 128 := mask 7 c 127 rfl (by decide) (by decide) c0 c1
  obtain ⟨d, hd⟩ : ∃ d, c % 128 = d := ⟨_, rfl⟩
  rw [hd] at m7
  have d0 : 0 ≤ d := by omega
  have d1 : d < 128 := by omega
  have HALL := Lib.hid (show dec (l ++ [d] ++ m) = xa ++ [d] ++ xb by rw [dec_anew l m d d1, ha, hbb])
  have HBALL : Hid (∀ x ∈ l ++ [d] ++ m, 0 ≤ x ∧ x < 256) := Lib.hid (by
    intro x hx
    simp only [List.mem_append, List.mem_singleton] at hx
    rcases hx with (hx | rfl) | hx
    · exact hb x hx
    · omega
    · exact hb2 x hx)
  have la := dec_len l
  have lb := dec_len m
  rw [ha] at la
  rw [hbb] at lb
  have hla : xa.length ≤ n := by omega
  have hlb : xb.length ≤ n2 := by omega
  obtain ⟨na, hna⟩ : ∃ na, xa.length = na := ⟨_, rfl⟩
  obtain ⟨nb, hnb⟩ : ∃ nb, xb.length = nb := ⟨_, rfl⟩
  have HNA := Lib.hid hna
  have HNB := Lib.hid hnb
  have HRA := Lib.hid (show (runes xa).length = na by rw [List.length_map, hna])
  have HRB := Lib.hid (show (runes xb).length = nb by rw [List.length_map, hnb])
  rw [hna] at hla
  rw [hnb] at hlb
  have q1 : decide ((na : Int) ≤ (n : Int)) = true := decide_eq_true (by omega)
  clear hl hm hb hb2 hnl hnm ha hbb hd la lb hna hnb
  go_enter Try.func6, Try.ntmps6
  go_wp2_with (first
    | (go_at_call 11; refine (decode_t l xa HXA.out _ _ _ HL.out HB.out (by omega) hs).mono ?_; clear hs; rintro e w hb; obtain ⟨a1, c1, rfl, hs⟩ := hb.elim; clear hb; rw [HNA.out] at hs ⊢)
    | (go_at_call 11; refine (decode_t m xb HXB.out _ _ _ HM.out.more HB2.out (by omega) hs).mono ?_; clear hs; rintro e w hb; obtain ⟨a2, c2, rfl, hs⟩ := hb.elim; clear hb; rw [HNB.out] at hs ⊢)
    | (go_at_call 11; refine (decode_t (l ++ [d] ++ m) (xa ++ [d] ++ xb) HALL.out _ _ _ (SK.of_own hs) HBALL.out (by omega) hs).mono ?_; clear hs; rintro e w hb; obtain ⟨a3, c3, rfl, hs⟩ := hb.elim; clear hb; generalize (xa ++ [d] ++ xb).length = n3 at hs ⊢)
    | (apply appf hs; exact rfl; exact rfl; exact rfl; exact rfl; exact slty22; exact HL.out.more.more.more.reads hs; exact ints_ok; exact HLn.out; omega; clear hs; intro a5 c5 w hs)
    | (apply appf hs; exact rfl; exact rfl; exact rfl; exact rfl; exact slty25; exact hs.b4.own_reads.1; exact ints_ok; exact HRA.out; omega; clear hs; intro a6 c6 w hs)
    | (apply app hs.b1; exact rfl; exact rfl; exact rfl; exact rfl; exact slty22; exact rfl; exact rfl; decide; omega; (unfold maxLen; omega); clear hs; intro a7 c7 w hs; rw [show bytes l ++ [Value.int .u8 d] = bytes (l ++ [d]) from by simp] at hs)
    | (apply app hs.b1; exact rfl; exact rfl; exact rfl; exact rfl; exact slty25; exact rfl; exact rfl; decide; omega; (unfold maxLen; omega); clear hs; intro a8 c8 w hs; rw [show runes xa ++ [Value.int .i32 d] = runes (xa ++ [d]) from by simp] at hs)
    | (apply apprm hs; exact rfl; exact rfl; exact rfl; exact rfl; exact slty22; exact HM.out.more.more.more.reads hs; exact ints_ok; exact HMn.out; omega; (unfold maxLen; omega); clear hs; intro a9 c9 w hs; rw [show bytes (l ++ [d]) ++ bytes m = bytes (l ++ [d] ++ m) from by simp] at hs)
    | (apply apprm hs; exact rfl; exact rfl; exact rfl; exact rfl; exact slty25; exact hs.b3.own_reads.1; exact ints_ok; exact HRB.out; omega; (unfold maxLen; omega); clear hs; intro a10 c10 w hs; rw [show runes (xa ++ [d]) ++ runes xb = runes (xa ++ [d] ++ xb) from by simp] at hs)
    | (go_at_call 10; refine (same_s _ _ (xa ++ [d] ++ xb) (hs.b1.own_reads.1) (hs.own_reads.1) hs).mono ?_; clear hs; rintro e w ⟨rfl, hs⟩; replace hs := hs.drop.drop.drop.drop.drop)
    | (go_at_call 9; refine (known9 hs).mono ?_; clear hs; rintro e w ⟨rfl, hs⟩)
    | (refine wrap hs ?_; clear hs; intro w hs)
    | (refine wrapn hs ?_; clear hs; intro w hs)
    | (refine wrapd hs ?_; clear hs; intro w hs))
  go_ret
  exact ⟨rfl, hs⟩
theorem anew_top (ad : Option Addr) (len cap : Nat) (zs : List Int) (c : Int) (hc : (Lit.int .u8 c).wf = true) (ad2 : Option Addr) (len2 cap2 : Nat) (zs2 : List Int) (w : World) (hr : IsRow .u8 w ad len cap zs) (hr2 : IsRow .u8 w ad2 len2 cap2 zs2) :
    Calls Try.prog 6 #[.slice ad len cap, .int .u8 c, .slice ad2 len2 cap2] w fun e w' => e = .returned (.bool true) ∧ Below w.heap.size w w' := by
  obtain ⟨l, hl, hw, hsl⟩ := sk_of_row hr
  obtain ⟨m, hm, hw2, hsl2⟩ := sk_of_row hr2
  have t1 := hsl w []
  have t2 := hsl2 w []
  have hc2 := bytes_wf (l := [c]) (by simpa using hc) c (by simp)
  by_cases h : 1000 < len ∨ (len ≤ 1000 ∧ 1000 < len2)
  · exact (anew_guard ad ad2 len cap len2 cap2 c h (by unfold SK at t1; omega) (by unfold SK at t2; omega) (sat.start w)).mono fun _ _ ⟨he, hs⟩ => ⟨he, hs.below⟩
  · exact (anew_walk w ad ad2 len cap len2 cap2 l m c hc2.1 hc2.2 (by omega) (by omega) t1 (bytes_wf hw) t2 (bytes_wf hw2) (sat.start w)).mono fun _ _ ⟨he, hs⟩ => ⟨he, hs.below⟩
end Go.Proofs.Ytaajgkccannjlaa
