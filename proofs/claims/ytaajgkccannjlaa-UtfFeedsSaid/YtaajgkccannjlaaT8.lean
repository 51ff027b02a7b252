import Derived.Test.YtaajgkccannjlaaT2
import Derived.Test.YtaajgkccannjlaaSz
namespace Go.Proofs.Ytaajgkccannjlaa
open Go.RowKit Go.Mem Go.Utf
variable {W w : World} {H : List HProp}
abbrev bytes (l : List Int) : List Value := l.map (Value.int .u8)
def EB (W : World) (H : List HProp) (l : List Int) : Ending → World → Prop := fun e w' => ∃ a cp, e = .returned (.slice a l.length cp) ∧ sat W (own 5 1 (.slice a l.length cp) l.length (bytes l) :: H) w'
theorem EB.elim {l : List Int} {e : Ending} {w : World} (h : EB W H l e w) : ∃ a cp, e = .returned (.slice a l.length cp) ∧ sat W (own 5 1 (.slice a l.length cp) l.length (bytes l) :: H) w := by unfold EB at h; exact h
attribute [local irreducible] World.setCell World.alloc World.drew World.drewN Calls sat cel own blk old wpQuiet first enc valid
theorem slty22 : SlTy Try.prog 22 5 1 1 := ⟨Try.underlying22, by obtain ⟨i0, hi, hz0, hz1, hz2⟩ := info_parts (show (Try.prog.info? 5).map (fun i => (i.zero, i.size, i.bytes)) = some (some (.int .u8 0), 1, 1) by kernel_rfl); exact ⟨i0, _, hi, hz0, hz1, hz2, rfl⟩, by decide⟩
theorem eb_cel {l : List Int} {b n : Nat} (hn : n = l.length) (h4 : n ≤ 4) (hs : sat W (cel b 5 (bytes l) :: H) w) : EB W H l (.returned (.slice (some ⟨b, 0, none⟩) n n)) w := by
  subst hn
  have := hs.cel_own (by rw [List.length_map]; unfold maxLen; omega)
  rw [List.length_map] at this
  exact ⟨_, _, rfl, this⟩
theorem eb_own {l : List Int} {a : Option Addr} {n c : Nat} (hn : n = l.length) (hs : sat W (own 5 1 (.slice a n c) n (bytes l) :: H) w) : EB W H l (.returned (.slice a n c)) w := by
  subst hn; exact ⟨_, _, rfl, hs⟩
attribute [local irreducible] EB
theorem enc_cases (r : Int) : ((r < 0 ∨ 1114111 < r ∨ (55296 ≤ r ∧ r ≤ 57343)) ∧ enc r = [239, 191, 189]) ∨ ((0 ≤ r ∧ r < 128) ∧ enc r = [r]) ∨ ((128 ≤ r ∧ r < 2048) ∧ enc r = [192 + r / 64, 128 + r % 64])
    ∨ ((2048 ≤ r ∧ r < 65536 ∧ (r < 55296 ∨ 57343 < r)) ∧ enc r = [224 + r / 4096, 128 + r / 64 % 64, 128 + r % 64]) ∨ ((65536 ≤ r ∧ r ≤ 1114111) ∧ enc r = [240 + r / 262144, 128 + r / 4096 % 64, 128 + r / 64 % 64, 128 + r % 64]) := by
  by_cases hv : valid r
  · have hv2 := hv
    unfold valid at hv2
    unfold enc
    rw [if_neg (by simpa using hv)]
    by_cases h1 : r < 128
    · rw [if_pos h1]; exact .inr (.inl ⟨by omega, rfl⟩)
    by_cases h2 : r < 2048
    · rw [if_neg h1, if_pos h2]; exact .inr (.inr (.inl ⟨by omega, rfl⟩))
    by_cases h3 : r < 65536
    · rw [if_neg h1, if_neg h2, if_pos h3]; exact .inr (.inr (.inr (.inl ⟨by omega, rfl⟩)))
    · rw [if_neg h1, if_neg h2, if_neg h3]; exact .inr (.inr (.inr (.inr ⟨by omega, rfl⟩)))
  · refine .inl ⟨?_, ?_⟩
    · unfold valid at hv; omega
    · unfold enc; rw [if_pos hv]
set_option maxHeartbeats 2000000 in
theorem encode14 (r : Int) (h0 : -2147483648 ≤ r) (h1 : r < 2147483648) (hs : sat W H w) : Calls Try.prog 14 #[.int .i32 r] w (EB W H (enc r)) := by
  rcases enc_cases r with ⟨hc, he⟩ | ⟨⟨hc, hd⟩, he⟩ | ⟨⟨hc, hd⟩, he⟩ | ⟨⟨hc, hd, hq⟩, he⟩ | ⟨⟨hc, hd⟩, he⟩
  · have HE := Lib.hid he
    clear he
    have hc2 : r < 0 ∨ (0 ≤ r ∧ 1114111 < r) ∨ (0 ≤ r ∧ r ≤ 1114111 ∧ 55296 ≤ r ∧ r ≤ 57343) := by omega
    clear hc
    rcases hc2 with hc | ⟨hc, hd⟩ | ⟨hc, hd, hx, hy⟩
    all_goals
      as_aux_lemma =>
        go_enter Try.func14, Try.ntmps14
        go_wp2
        go_ret
        rw [HE.out]; exact eb_cel (l := [239, 191, 189]) rfl (by decide) (hs.made (T := 5) (l := bytes [239, 191, 189]))
  · have HE := Lib.hid he
    clear he
    as_aux_lemma =>
      go_enter Try.func14, Try.ntmps14
      go_wp2
      go_ret
      rw [HE.out]; exact eb_cel (l := [r]) rfl (by decide) (hs.made (T := 5) (l := bytes [r]))
  · have HE := Lib.hid he
    clear he
    as_aux_lemma =>
      go_enter Try.func14, Try.ntmps14
      go_wp2
      go_ret
      rw [HE.out]; exact eb_cel (l := [192 + r / 64, 128 + r % 64]) rfl (by simp) (hs.made (T := 5) (l := bytes [192 + r / 64, 128 + r % 64]))
  · have HE := Lib.hid he
    clear he
    rcases hq with hq | hq
    all_goals
      as_aux_lemma =>
        go_enter Try.func14, Try.ntmps14
        go_wp2
        go_ret
        rw [HE.out]; exact eb_cel (l := [224 + r / 4096, 128 + r / 64 % 64, 128 + r % 64]) rfl (by simp) (hs.made (T := 5) (l := bytes [224 + r / 4096, 128 + r / 64 % 64, 128 + r % 64]))
  · have HE := Lib.hid he
    clear he
    as_aux_lemma =>
      go_enter Try.func14, Try.ntmps14
      go_wp2
      go_ret
      rw [HE.out]; exact eb_cel (l := [240 + r / 262144, 128 + r / 4096 % 64, 128 + r / 64 % 64, 128 + r % 64]) rfl (by simp) (hs.made (T := 5) (l := bytes [240 + r / 262144, 128 + r / 4096 % 64, 128 + r / 64 % 64, 128 + r % 64]))
set_option maxHeartbeats 4000000 in
theorem append26 (r : Int) (h0 : -2147483648 ≤ r) (h1 : r < 2147483648) (h2 : r < 0 ∨ 127 < r) (hs : sat W H w) : Calls Try.prog 26 #[.slice none 0 0, .int .i32 r] w (EB W H (enc r)) := by
  rcases enc_cases r with ⟨hc, he⟩ | ⟨⟨hc, hd⟩, he⟩ | ⟨⟨hc, hd⟩, he⟩ | ⟨⟨hc, hd, hq⟩, he⟩ | ⟨⟨hc, hd⟩, he⟩
  · have HE := Lib.hid he
    clear he
    have hc2 : r < 0 ∨ (0 ≤ r ∧ 1114111 < r) ∨ (0 ≤ r ∧ r ≤ 1114111 ∧ 55296 ≤ r ∧ r ≤ 57343) := by omega
    clear hc h2
    rcases hc2 with hc | ⟨hc, hd⟩ | ⟨hc, hd, hx, hy⟩
    · have u1 : IntKind.u32.wrap r = r + 4294967296 := by rw [show IntKind.u32.wrap r = r % 4294967296 from rfl]; omega
      as_aux_lemma =>
        go_enter Try.func26, Try.ntmps26
        go_wp2_with (first
    | (apply app (hs.own_nil 5 1); exact rfl; exact rfl; exact rfl; exact rfl; exact slty22; exact rfl; exact rfl; decide; decide; decide; clear hs; intro a1 c1 w hs)
    | (refine wrap hs ?_; clear hs; intro w hs)
    | (refine wrapn hs ?_; clear hs; intro w hs)
    | (refine wrapd hs ?_; clear hs; intro w hs))
        go_ret
        rw [HE.out]; exact eb_own (l := [239, 191, 189]) rfl hs
    · skip
      as_aux_lemma =>
        go_enter Try.func26, Try.ntmps26
        go_wp2_with (first
    | (apply app (hs.own_nil 5 1); exact rfl; exact rfl; exact rfl; exact rfl; exact slty22; exact rfl; exact rfl; decide; decide; decide; clear hs; intro a1 c1 w hs)
    | (refine wrap hs ?_; clear hs; intro w hs)
    | (refine wrapn hs ?_; clear hs; intro w hs)
    | (refine wrapd hs ?_; clear hs; intro w hs))
        go_ret
        rw [HE.out]; exact eb_own (l := [239, 191, 189]) rfl hs
    · skip
      as_aux_lemma =>
        go_enter Try.func26, Try.ntmps26
        go_wp2_with (first
    | (apply app (hs.own_nil 5 1); exact rfl; exact rfl; exact rfl; exact rfl; exact slty22; exact rfl; exact rfl; decide; decide; decide; clear hs; intro a1 c1 w hs)
    | (refine wrap hs ?_; clear hs; intro w hs)
    | (refine wrapn hs ?_; clear hs; intro w hs)
    | (refine wrapd hs ?_; clear hs; intro w hs))
        go_ret
        rw [HE.out]; exact eb_own (l := [239, 191, 189]) rfl hs
  · omega
  · have HE := Lib.hid he
    clear he h2
    as_aux_lemma =>
      go_enter Try.func26, Try.ntmps26
      go_wp2_with (first
    | (apply app (hs.own_nil 5 1); exact rfl; exact rfl; exact rfl; exact rfl; exact slty22; exact rfl; exact rfl; decide; decide; decide; clear hs; intro a1 c1 w hs)
    | (refine wrap hs ?_; clear hs; intro w hs)
    | (refine wrapn hs ?_; clear hs; intro w hs)
    | (refine wrapd hs ?_; clear hs; intro w hs))
      go_ret
      rw [HE.out]; exact eb_own (l := [192 + r / 64, 128 + r % 64]) rfl hs
  · have HE := Lib.hid he
    clear he h2
    rcases hq with hq | hq
    all_goals
      as_aux_lemma =>
        go_enter Try.func26, Try.ntmps26
        go_wp2_with (first
    | (apply app (hs.own_nil 5 1); exact rfl; exact rfl; exact rfl; exact rfl; exact slty22; exact rfl; exact rfl; decide; decide; decide; clear hs; intro a1 c1 w hs)
    | (refine wrap hs ?_; clear hs; intro w hs)
    | (refine wrapn hs ?_; clear hs; intro w hs)
    | (refine wrapd hs ?_; clear hs; intro w hs))
        go_ret
        rw [HE.out]; exact eb_own (l := [224 + r / 4096, 128 + r / 64 % 64, 128 + r % 64]) rfl hs
  · have HE := Lib.hid he
    clear he h2
    as_aux_lemma =>
      go_enter Try.func26, Try.ntmps26
      go_wp2_with (first
    | (apply app (hs.own_nil 5 1); exact rfl; exact rfl; exact rfl; exact rfl; exact slty22; exact rfl; exact rfl; decide; decide; decide; clear hs; intro a1 c1 w hs)
    | (refine wrap hs ?_; clear hs; intro w hs)
    | (refine wrapn hs ?_; clear hs; intro w hs)
    | (refine wrapd hs ?_; clear hs; intro w hs))
      go_ret
      rw [HE.out]; exact eb_own (l := [240 + r / 262144, 128 + r / 4096 % 64, 128 + r / 64 % 64, 128 + r % 64]) rfl hs
theorem encode13 (r : Int) (h0 : -2147483648 ≤ r) (h1 : r < 2147483648) (hs : sat W H w) : Calls Try.prog 13 #[.int .i32 r] w (EB W H (enc r)) := by
  have ha : ∀ w, sat W H w → Calls Try.prog 21 #[.slice none 0 0, .int .i32 r] w (EB W H (enc r)) := by
    intro w hs
    by_cases h : r < 0 ∨ 127 < r
    · have HC := Lib.hid (fun (w : World) (hs : sat W H w) => append26 r h0 h1 h hs)
      rcases h with h | h
      · have u1 : IntKind.u32.wrap r = r + 4294967296 := by rw [show IntKind.u32.wrap r = r % 4294967296 from rfl]; omega
        as_aux_lemma =>
          go_enter Try.func21, Try.ntmps21
          go_wp2_with (first
    | (go_at_call 26; refine (HC.out _ hs).mono ?_; clear hs; rintro e w hb; obtain ⟨a1, c1, rfl, hs⟩ := hb.elim; clear hb)
    | (refine wrap hs ?_; clear hs; intro w hs)
    | (refine wrapn hs ?_; clear hs; intro w hs)
    | (refine wrapd hs ?_; clear hs; intro w hs))
          go_ret
          exact eb_own rfl hs
      · as_aux_lemma =>
          go_enter Try.func21, Try.ntmps21
          go_wp2_with (first
    | (go_at_call 26; refine (HC.out _ hs).mono ?_; clear hs; rintro e w hb; obtain ⟨a1, c1, rfl, hs⟩ := hb.elim; clear hb)
    | (refine wrap hs ?_; clear hs; intro w hs)
    | (refine wrapn hs ?_; clear hs; intro w hs)
    | (refine wrapd hs ?_; clear hs; intro w hs))
          go_ret
          exact eb_own rfl hs
    · have HE : Hid (enc r = [r]) := Lib.hid (by rcases enc_cases r with ⟨hc, he⟩ | ⟨hc, he⟩ | ⟨hc, he⟩ | ⟨hc, he⟩ | ⟨hc, he⟩ <;> first | exact he | omega)
      obtain ⟨h3, h4⟩ : 0 ≤ r ∧ r ≤ 127 := by omega
      clear h
      as_aux_lemma =>
        go_enter Try.func21, Try.ntmps21
        go_wp2_with (first
    | (apply app (hs.own_nil 5 1); exact rfl; exact rfl; exact rfl; exact rfl; exact slty22; exact rfl; exact rfl; decide; decide; decide; clear hs; intro a1 c1 w hs)
    | (refine wrap hs ?_; clear hs; intro w hs)
    | (refine wrapn hs ?_; clear hs; intro w hs)
    | (refine wrapd hs ?_; clear hs; intro w hs))
        go_ret
        rw [HE.out]; exact eb_own (l := [r]) rfl hs
  have HA := Lib.hid ha
  clear ha
  go_enter Try.func13, Try.ntmps13
  go_wp2_with (first
    | (go_at_call 21; refine (HA.out _ hs).mono ?_; clear hs; rintro e w hb; obtain ⟨a1, c1, rfl, hs⟩ := hb.elim; clear hb)
    | (refine wrap hs ?_; clear hs; intro w hs)
    | (refine wrapn hs ?_; clear hs; intro w hs)
    | (refine wrapd hs ?_; clear hs; intro w hs))
  go_ret
  exact eb_own rfl hs
end Go.Proofs.Ytaajgkccannjlaa
