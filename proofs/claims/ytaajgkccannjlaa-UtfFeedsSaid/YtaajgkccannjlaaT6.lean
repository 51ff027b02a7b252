import Derived.Test.YtaajgkccannjlaaT5
namespace Go.Proofs.Ytaajgkccannjlaa
open Go.RowKit Go.Mem Go.Utf
variable {W w : World} {H : List HProp}
attribute [local irreducible] World.setCell World.alloc World.drew World.drewN Calls sat cel own blk old wpQuiet first size begins more SK val head value say
theorem begins_t (ad : Option Addr) (n cp : Nat) (l : List Int) (hl : SK .u8 W H ad n cp l) (p : Nat) (hn : n ≤ 100000) (hp : p < n) (k : Nat) (hk : begins (l.drop p) = k) (hs : sat W H w) :
    Calls Try.prog 23 #[.slice ad n cp, .int .i64 p] w fun e w' => e = .returned (.int .i64 k) ∧ sat W H w' := hk ▸ begins23 ad n cp l hl p hn hp hs
theorem value_t (ad : Option Addr) (n cp : Nat) (a : Int) (t : List Int) (hl : SK .u8 W H ad n cp (a :: t)) (hb : ∀ x ∈ a :: t, 0 ≤ x ∧ x < 256) (hsz : size a = n) (v : Int) (hv : value (a :: t) = v) (hs : sat W H w) :
    Calls Try.prog 25 #[.slice ad n cp] w fun e w' => e = .returned (.int .i32 v) ∧ sat W H w' := hv ▸ value25 ad n cp a t hl hb hsz hs
def SI (l : List Int) (p : Nat) (acc : List Int) : Prop := (say l).1 = acc ++ (say (l.drop p)).1 ∧ (say l).2 = (say (l.drop p)).2
theorem SI.put {l acc : List Int} {p q : Nat} {x : Int} (h : SI l p acc) (e : say (l.drop p) = put x (say (l.drop q))) : SI l q (acc ++ [x]) := by
  obtain ⟨h1, h2⟩ := h
  rw [e] at h1 h2
  exact ⟨by rw [h1]; show acc ++ (x :: _) = _; simp, h2⟩
attribute [local irreducible] SI
set_option maxHeartbeats 8000000 in
theorem say19 (ad : Option Addr) (n cp : Nat) (l : List Int) (hl : SK .u8 W H ad n cp l) (hb : ∀ x ∈ l, 0 ≤ x ∧ x < 256) (hn100 : n ≤ 100000) (hs : sat W H w) :
    Calls Try.prog 19 #[.slice ad n cp] w fun e w' => ∃ a m c, m = (say l).1.length ∧ m ≤ n ∧ e = .returned (.tuple #[.slice a m c, .int .i64 ((say l).2 : Nat)]) ∧ sat W (own 21 1 (.slice a m c) m (runes (say l).1) :: H) w' := by
  have HE := Lib.hid (show n = l.length by unfold SK at hl; exact hl.1)
  have hcp : n ≤ cp ∧ cp ≤ maxLen := by unfold SK at hl; exact ⟨hl.2.1, hl.2.2.1⟩
  obtain ⟨hcp1, hcp2⟩ := hcp
  have hcp3 := hcp2
  unfold maxLen at hcp2
  have HL := Lib.hid hl
  have HB := Lib.hid hb
  clear hl hb
  have hs := hs.own_nil 21 1
  go_enter Try.func19, Try.ntmps19
  go_wp2_with (first
    | (refine wrap hs ?_; clear hs; intro w hs)
    | (refine wrapn hs ?_; clear hs; intro w hs)
    | (refine wrapd hs ?_; clear hs; intro w hs))
  go_loopw [4, 5, 6] (fun sv pv _ wr => ∃ (p m : Nat) (a' : Option Addr) (c' : Nat) (acc : List Int), p ≤ n ∧ m ≤ p ∧ sv = .slice a' m c' ∧ pv = .int .i64 p ∧ Hid (SI l p acc) ∧ Hid (m = acc.length) ∧ sat W (own 21 1 (.slice a' m c') m (runes acc) :: H) wr) (fun _ pv _ _ => n - (intOf pv).toNat)
  case atStart => exact ⟨0, 0, none, 0, [], Nat.zero_le _, Nat.le_refl _, rfl, rfl, Lib.hid (by unfold SI; exact ⟨rfl, rfl⟩), rfl, hs⟩
  case round =>
    clear hs
    obtain ⟨p, m, a', c', acc, hp, hm, rfl, rfl, HI, HM, hs⟩ := hrel
    by_cases hpn : p < n
    · obtain ⟨a, t, ht⟩ : ∃ a t, l.drop p = a :: t := ⟨_, _, List.drop_eq_getElem_cons (by rw [← HE.out]; exact hpn)⟩
      have hga : l[p]? = some a := by have := congrArg List.head? ht; simpa using this
      obtain ⟨b, off, rfl⟩ := HL.out.ptr hs.drop (by omega)
      have C0 := Lib.hid (HL.out.at p a hga)
      have hlen : t.length + 1 = n - p := by have := congrArg List.length ht; rw [List.length_drop, List.length_cons] at this; rw [HE.out]; omega
      obtain ⟨k, hk⟩ : ∃ k, begins (a :: t) = k := ⟨_, rfl⟩
      obtain ⟨z, hz⟩ : ∃ z, size a = z := ⟨_, rfl⟩
      have hkb := begins_le a t
      rw [hk, hz] at hkb
      obtain ⟨hk1, hk2⟩ := hkb
      have hz4 : z ≤ 4 := by rw [← hz]; exact size_le a
      have HK : Hid (begins (l.drop p) = k) := Lib.hid (by rw [ht]; exact hk)
      have HSC := say_cons a t
      rw [hk, hz] at HSC
      have HS := Lib.hid hz
      have hpk : p + k ≤ n := by omega
      clear hga hk hz
      by_cases k0 : k = 0
      · subst k0
        have HI2 := Lib.hid (HI.out.put (x := bad) (q := p + 1) (by rw [ht, HSC, if_pos rfl, show l.drop (p + 1) = t from by rw [← List.tail_drop, ht]; rfl]))
        clear HSC ht
        as_aux_lemma =>
          go_wp2_with (first
    | (go_at_call 23; refine (begins_t _ _ _ _ HL.out.more p hn100 hpn _ HK.out hs).mono ?_; clear hs; rintro e w ⟨rfl, hs⟩)
    | (apply app hs.b1; exact rfl; exact rfl; exact rfl; exact rfl; exact slty25; exact rfl; exact rfl; decide; omega; unfold maxLen; omega; clear hs; intro g' c' w hs)
    | (refine wrap hs ?_; clear hs; intro w hs)
    | (refine wrapn hs ?_; clear hs; intro w hs)
    | (refine wrapd hs ?_; clear hs; intro w hs))
          go_roundw
          case rel => exact ⟨p + 1, m + 1, _, _, acc ++ [bad], by omega, by omega, rfl, by go_num, HI2, Lib.hid (by rw [List.length_append, HM.out]; rfl), by rw [show runes (acc ++ [bad]) = runes acc ++ runes [bad] from List.map_append]; exact hs⟩
          case measure => simp [intOf]; omega
      · have b0 := beq_no (show (k : Int) ≠ 0 by omega)
        by_cases kz : k = z
        · subst kz
          have ek : (a :: t).take k = a :: t.take (k - 1) := by
            obtain ⟨j, rfl⟩ : ∃ j, k = j + 1 := ⟨k - 1, by omega⟩
            rfl
          have hd := HL.out.drop (k := p) (by omega)
          have htk := hd.take (k := k) (c' := cp - p) (by omega) (by omega) (by unfold maxLen; omega)
          rw [ht, ek] at htk
          have HV := Lib.hid htk
          have HVB : Hid (∀ x ∈ a :: t.take (k - 1), 0 ≤ x ∧ x < 256) := Lib.hid (fun x hx => HB.out x (by
            rw [← ek] at hx
            have h2 := List.mem_of_mem_take hx
            rw [← ht] at h2
            exact List.mem_of_mem_drop h2))
          obtain ⟨v, hv⟩ : ∃ v, value (a :: t.take (k - 1)) = v := ⟨_, rfl⟩
          have HVV := Lib.hid hv
          have HI2 := Lib.hid (HI.out.put (x := v) (q := p + k) (by rw [ht, HSC, if_neg k0, if_pos rfl, ek, hv, ← List.drop_drop, ht]))
          have bk : ((k : Int) == (k : Int)) = true := by simp
          clear HSC ht hd htk hv ek
          as_aux_lemma =>
            go_wp2_with (first
    | (go_at_call 23; refine (begins_t _ _ _ _ HL.out.more p hn100 hpn _ HK.out hs).mono ?_; clear hs; rintro e w ⟨rfl, hs⟩)
    | (go_at_call 24; refine (size_t _ _ HS.out _).mono ?_; rintro e w' ⟨rfl, rfl⟩)
    | (go_at_call 25; refine (value_t _ _ _ a (t.take (k - 1)) HV.out.more HVB.out HS.out v HVV.out hs).mono ?_; clear hs; rintro e w ⟨rfl, hs⟩)
    | (apply ldc; exact rfl; exact rfl; exact rfl; exact C0.out _ hs.drop; kernel_rfl)
    | (apply app hs.b1; exact rfl; exact rfl; exact rfl; exact rfl; exact slty25; exact rfl; exact rfl; decide; omega; unfold maxLen; omega; clear hs; intro g' c' w hs)
    | (refine wrap hs ?_; clear hs; intro w hs)
    | (refine wrapn hs ?_; clear hs; intro w hs)
    | (refine wrapd hs ?_; clear hs; intro w hs))
            go_roundw
            case rel => exact ⟨p + k, m + 1, _, _, acc ++ [v], by omega, by omega, rfl, by go_num, HI2, Lib.hid (by rw [List.length_append, HM.out]; rfl), by rw [show runes (acc ++ [v]) = runes acc ++ runes [v] from List.map_append]; exact hs⟩
            case measure => simp [intOf]; omega
        · have bk := beq_no (show (k : Int) ≠ (z : Int) by omega)
          by_cases he : p + k = n
          · have be : ((p : Int) + (k : Int) == (n : Int)) = true := by rw [beq_iff_eq]; omega
            have HR : Hid ((say l).1 = acc ∧ (say l).2 = k) := Lib.hid (by
              have h := HI.out
              unfold SI at h
              rw [ht, HSC, if_neg k0, if_neg kz, if_pos (by rw [List.length_cons]; omega)] at h
              exact ⟨by rw [h.1]; simp, h.2⟩)
            clear HSC ht
            have HEE := Lib.hid he
            clear he
            as_aux_lemma =>
              go_wp2_with (first
    | (go_at_call 23; refine (begins_t _ _ _ _ HL.out.more p hn100 hpn _ HK.out hs).mono ?_; clear hs; rintro e w ⟨rfl, hs⟩)
    | (go_at_call 24; refine (size_t _ _ HS.out _).mono ?_; rintro e w' ⟨rfl, rfl⟩)
    | (apply ldc; exact rfl; exact rfl; exact rfl; exact C0.out _ hs.drop; kernel_rfl)
    | (refine wrap hs ?_; clear hs; intro w hs)
    | (refine wrapn hs ?_; clear hs; intro w hs)
    | (refine wrapd hs ?_; clear hs; intro w hs))
              refine end_ret rfl (results_tmp2 rfl _ _ _) ?_
              exact ⟨a', m, c', by rw [HR.out.1]; exact HM.out, by omega, by rw [HR.out.2]; rfl, by rw [HR.out.1]; exact hs⟩
          · have be := beq_no (show (p : Int) + (k : Int) ≠ (n : Int) by omega)
            have HI2 := Lib.hid (HI.out.put (x := bad) (q := p + k) (by rw [ht, HSC, if_neg k0, if_neg kz, if_neg (by rw [List.length_cons]; omega), ← List.drop_drop, ht]))
            clear HSC ht
            as_aux_lemma =>
              go_wp2_with (first
    | (go_at_call 23; refine (begins_t _ _ _ _ HL.out.more p hn100 hpn _ HK.out hs).mono ?_; clear hs; rintro e w ⟨rfl, hs⟩)
    | (go_at_call 24; refine (size_t _ _ HS.out _).mono ?_; rintro e w' ⟨rfl, rfl⟩)
    | (apply ldc; exact rfl; exact rfl; exact rfl; exact C0.out _ hs.drop; kernel_rfl)
    | (apply app hs.b1; exact rfl; exact rfl; exact rfl; exact rfl; exact slty25; exact rfl; exact rfl; decide; omega; unfold maxLen; omega; clear hs; intro g' c' w hs)
    | (refine wrap hs ?_; clear hs; intro w hs)
    | (refine wrapn hs ?_; clear hs; intro w hs)
    | (refine wrapd hs ?_; clear hs; intro w hs))
              go_roundw
              case rel => exact ⟨p + k, m + 1, _, _, acc ++ [bad], by omega, by omega, rfl, by go_num, HI2, Lib.hid (by rw [List.length_append, HM.out]; rfl), by rw [show runes (acc ++ [bad]) = runes acc ++ runes [bad] from List.map_append]; exact hs⟩
              case measure => simp [intOf]; omega
    · have HR : Hid ((say l).1 = acc ∧ (say l).2 = 0) := Lib.hid (by
        have h := HI.out
        unfold SI at h
        rw [List.drop_of_length_le (by rw [← HE.out]; omega), say_nil] at h
        exact ⟨by rw [h.1]; simp, h.2⟩)
      as_aux_lemma =>
        go_wp2_with (first
    | (refine wrap hs ?_; clear hs; intro w hs)
    | (refine wrapn hs ?_; clear hs; intro w hs)
    | (refine wrapd hs ?_; clear hs; intro w hs))
        refine end_ret rfl (results_tmp2 rfl _ _ _) ?_
        exact ⟨a', m, c', by rw [HR.out.1]; exact HM.out, by omega, by rw [HR.out.2]; rfl, by rw [HR.out.1]; exact hs⟩
end Go.Proofs.Ytaajgkccannjlaa
