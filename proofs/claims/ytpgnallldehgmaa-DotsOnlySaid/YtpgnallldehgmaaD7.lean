import Derived.Test.YtpgnallldehgmaaD6
import Derived.WalkMore
namespace Go.Proofs.Ytpgnallldehgmaa
open Go.RowKit Go.Mem Go.Dots
variable {W w : World} {H : List HProp}
theorem dec_step (s : ByteArray) (p : Nat) (hp : p < s.size) : ∃ r wd, Utf8.decode s p = (r, wd) ∧ 1 ≤ wd ∧ ((r < 128 ∧ wd = 1 ∧ (by_ s).drop p = r :: (by_ s).drop (p + 1)) ∨ (128 ≤ r ∧ ∃ b l, 128 ≤ b ∧ (by_ s).drop p = b :: l)) := by
  have e := by_drop s p hp
  have g0 : s.get! p = s[p]'hp := get_at s p hp
  rw [g0] at e
  by_cases h : (s[p]'hp).toNat < 128
  · exact ⟨_, _, decode_ascii s p hp h, Nat.le_refl _, .inl ⟨h, rfl, e⟩⟩
  · have hh := decode_high s p hp (by omega)
    exact ⟨_, _, rfl, hh.2, .inr ⟨hh.1, _, _, by omega, e⟩⟩
/-- The machine's state. -/
def PS (t : List Nat) (c last : Nat) (none : Bool) : Prop := (none = true → last = 48 ∧ c = 0) ∧ (48 ≤ last ∧ last ≤ 56) ∧ c < 2 ^ (last - 48)
def PR (S : List Nat) (p : Nat) (t : List Nat) (c last : Nat) (none : Bool) : Prop := Dots.run S .start = Dots.run (S.drop p) ⟨t, c, last, none⟩
theorem PR.bad {S : ByteArray} {p : Nat} {t : List Nat} {c last : Nat} {none : Bool} (h : PR (by_ S) p t c last none) (hp : p < S.size) {r wd : Nat} (hd : Utf8.decode S p = (r, wd)) (hl : last ≤ 56)
    (hr : ¬(r = 45 ∧ ¬(last = 48 ∧ none = true)) ∧ ¬(r = 48 ∧ none = true) ∧ ¬(r ≠ 45 ∧ last < r ∧ r ≤ 56)) : Dots.run (by_ S) .start = .none := by
  rw [show Dots.run (by_ S) .start = _ from h]
  obtain ⟨r', wd', hd', _, hc⟩ := dec_step S p hp
  rw [hd] at hd'
  cases hd'
  rcases hc with ⟨_, _, e⟩ | ⟨h1, b, l, hb, e⟩
  · rw [e]
    unfold Dots.run Dots.step
    by_cases h45 : r = 45
    · rw [if_pos h45, if_pos (Decidable.of_not_not (fun h => hr.1 ⟨h45, h⟩))]; rfl
    · rw [if_neg h45, if_neg hr.2.1, if_neg (fun h => hr.2.2 ⟨h45, h⟩)]; rfl
  · rw [e]
    unfold Dots.run Dots.step
    rw [if_neg (by omega), if_neg (by omega), if_neg (by omega)]; rfl
theorem PR.next {S : ByteArray} {p : Nat} {t : List Nat} {c last : Nat} {none : Bool} (h : PR (by_ S) p t c last none) (hp : p < S.size) {r wd : Nat} (hd : Utf8.decode S p = (r, wd)) (hr : r < 128) {t' : List Nat} {c' last' : Nat} {none' : Bool}
    (hs : Dots.step ⟨t, c, last, none⟩ r = some ⟨t', c', last', none'⟩) : wd = 1 ∧ PR (by_ S) (p + 1) t' c' last' none' := by
  obtain ⟨r', wd', hd', _, hc⟩ := dec_step S p hp
  rw [hd] at hd'
  cases hd'
  rcases hc with ⟨_, hw, e⟩ | ⟨h1, _⟩
  · refine ⟨hw, ?_⟩
    show Dots.run (by_ S) .start = _
    rw [show Dots.run (by_ S) .start = _ from h, e]
    conv => lhs; unfold Dots.run
    rw [hs]; rfl
  · omega
theorem or_add (c k : Nat) (h : c < 2 ^ k) : c ||| 2 ^ k = c + 2 ^ k := by
  rw [Nat.or_comm, Nat.add_comm]; have := Nat.two_pow_add_eq_or_of_lt h 1; rw [Nat.mul_one] at this; exact this.symm
theorem by_dash : by_ ⟨#[45]⟩ = [45] := rfl
theorem run_nil (st : St) : Dots.run [] st = some st := rfl
attribute [local irreducible] World.setCell World.alloc World.drew World.drewN Calls sat cel own blk old wpQuiet bs by_ cellTxt txt showB si Dots.run Dots.parse Utf8.decode

set_option maxHeartbeats 1000000 in
theorem parse12 (s : ByteArray) (hlen : s.size ≤ 10000) (hs : sat W H w) : Calls Try.prog 12 #[.string s] w (RP W H (Dots.parse (by_ s))) := by
  by_cases h0 : s.toList = []
  · have HP := Lib.hid (show Dots.parse (by_ s) = some [] by rw [show by_ s = [] from by rw [Go.ByteArray.toList_eq] at h0; unfold by_; rw [h0]; rfl]; unfold Dots.parse; rfl)
    have f0 : s.toList.isEmpty = true := by rw [h0]; rfl
    go_enter Try.func12, Try.ntmps12
    go_wp2_with (first
    | (refine wrap hs ?_; clear hs; intro w hs)
    | (refine wrapn hs ?_; clear hs; intro w hs)
    | (refine wrapd hs ?_; clear hs; intro w hs))
    go_step3
    go_wp2_with (first
    | (refine wrap hs ?_; clear hs; intro w hs)
    | (refine wrapn hs ?_; clear hs; intro w hs)
    | (refine wrapd hs ?_; clear hs; intro w hs))
    refine end_ret rfl (results_tmp2 rfl _ _ _) ?_
    exact RP.yes (l := []) HP.out rfl rfl (hs.own_nil 5 1)
  · have hz : ¬ 9223372036854775807 < s.size + (ByteArray.mk #[45]).size := by have : (ByteArray.mk #[45]).size = 1 := rfl; omega
    have HP : Hid (Dots.parse (by_ s) = (Dots.run (by_ (s ++ ByteArray.mk #[45])) .start).map (·.out)) := by
      refine Lib.hid ?_
      rw [by_append, by_dash]
      unfold Dots.parse
      rw [if_neg (fun e => h0 (by rw [← bs_by s, e]; exact str_nil.2 rfl))]
    have hsz : (s ++ ByteArray.mk #[45]).size ≤ 10001 := by rw [ByteArray.size_append]; have : (ByteArray.mk #[45]).size = 1 := rfl; omega
    have f0 : s.toList.isEmpty = false := by simpa using h0
    have hs := hs.own_nil 5 1
    go_enter Try.func12, Try.ntmps12
    go_wp2_with (first
    | (refine wrap hs ?_; clear hs; intro w hs)
    | (refine wrapn hs ?_; clear hs; intro w hs)
    | (refine wrapd hs ?_; clear hs; intro w hs))
    go_step3
    go_wp2_with (first
    | (refine wrap hs ?_; clear hs; intro w hs)
    | (refine wrapn hs ?_; clear hs; intro w hs)
    | (refine wrapd hs ?_; clear hs; intro w hs))
    go_step3
    go_wp2_with (first
    | (refine wrap hs ?_; clear hs; intro w hs)
    | (refine wrapn hs ?_; clear hs; intro w hs)
    | (refine wrapd hs ?_; clear hs; intro w hs))
    have hs := hs.iter (s ++ ByteArray.mk #[45])
    generalize w.iter (s ++ ByteArray.mk #[45]) 0 = w1 at *
    generalize w.heap.size = g at *
    generalize s ++ ByteArray.mk #[45] = S at *
    go_loopw [4, 5, 6, 7] (fun lv cv av nv wr => ∃ (k p c last : Nat) (nn : Bool) (t : List Nat) (a : Option Addr) (cp : Nat), p ≤ S.size ∧ k ≤ p ∧ Hid (k = t.length) ∧ Hid (PR (by_ S) p t c last nn) ∧ PS t c last nn ∧ lv = .slice a k cp ∧ cv = .int .u8 c ∧ av = .int .i32 last ∧ nv = .bool nn ∧ sat W (si g S p :: own 5 1 (.slice a k cp) k (nums .u8 t) :: H) wr) (fun _ _ _ _ w' => S.size - w'.iterPos g)
    case atStart => exact ⟨0, 0, 0, 48, true, [], none, 0, Nat.zero_le _, Nat.zero_le _, rfl, rfl, ⟨fun _ => ⟨rfl, rfl⟩, by omega, by omega⟩, rfl, rfl, rfl, rfl, hs⟩
    case round =>
      clear hs
      obtain ⟨k, p, c, last, nn, t, a, cp, hp, hk, ht, hR, hps, rfl, rfl, rfl, rfl, hs⟩ := hrel
      have HI := Lib.hid (sat.iter_pos hs)
      by_cases hlt : p < S.size
      · obtain ⟨r, wd, hde, hw1, hc⟩ := dec_step S p hlt
        clear hc
        have HV := Lib.hid hde
        clear hde
        obtain ⟨hn1, hl1, hc1⟩ := hps
        by_cases hx : 48 < r ∧ last < r ∧ r ≤ 56
        · obtain ⟨x0, x1, x2⟩ := hx
          have f1 : ((r : Int) == 45) = false := by simp; omega
          have f2 : ((r : Int) == 48) = false := by simp; omega
          have f3 : ((last : Int) == 56) = false := by simp; omega
          have hp1 : 2 ^ (last - 48) ≤ 2 ^ (r - 49) := Nat.pow_le_pow_right (by omega) (by omega)
          have hp2 : 2 ^ (r - 49) ≤ 2 ^ 7 := Nat.pow_le_pow_right (by omega) (by omega)
          have hp3 : 2 ^ (r - 48) = 2 ^ (r - 49) * 2 := by rw [← Nat.pow_succ]; congr 1; omega
          have HC2 := Lib.hid (show c + 2 ^ (r - 49) < 2 ^ (r - 48) by omega)
          have hp2' : 2 ^ (r - 49) ≤ 128 := hp2
          have f4 : bits .or .u8 (c : Int) (2 ^ (r - 49) % 256) = ((c + 2 ^ (r - 49) : Nat) : Int) := by
            rw [show ((2 : Int) ^ (r - 49) % 256) = ((2 ^ (r - 49) : Nat) : Int) by rw [← show ((2 ^ (r - 49) : Nat) : Int) = (2 : Int) ^ (r - 49) by rw [Int.natCast_pow]; rfl]; omega, u8_or_nat _ _ (by omega) (by omega), or_add c _ (by omega)]
          clear hp1 hp2 hp2' hp3 hn1
          have HN := Lib.hid (hR.out.next hlt HV.out (by omega) (t' := t) (c' := c + 2 ^ (r - 49)) (last' := r) (none' := false) (by unfold Dots.step; rw [if_neg (by omega), if_neg (by omega), if_pos ⟨x1, x2⟩]))
          cases nn
          all_goals
            go_wp2_with (first
    | (apply nxd hs; exact rfl; exact rfl; exact rfl; exact hlt; exact HV.out; clear hs; intro w hs)
    | (refine wrap hs ?_; clear hs; intro w hs)
    | (refine wrapn hs ?_; clear hs; intro w hs)
    | (refine wrapd hs ?_; clear hs; intro w hs))
            go_roundw
            case rel => exact ⟨k, p + 1, c + 2 ^ (r - 49), r, false, t, a, cp, by omega, by omega, ht, HN.out.2, ⟨fun h => (by cases h), by omega, HC2.out⟩, rfl, rfl, rfl, rfl, by rw [HN.out.1] at hs; exact hs⟩
            case measure => rw [HI.out, sat.iter_pos hs, HN.out.1]; omega
        · by_cases h45 : r = 45
          · cases nn
            · have HN := Lib.hid (hR.out.next hlt HV.out (by omega) (t' := t ++ [c]) (c' := 0) (last' := 48) (none' := true) (by unfold Dots.step; rw [if_pos h45, if_neg (by simp)]))
              subst h45
              clear hn1 hx
              go_wp2_with (first
    | (apply nxd hs; exact rfl; exact rfl; exact rfl; exact hlt; exact HV.out; clear hs; intro w hs)
    | (apply app hs.b2; exact rfl; exact rfl; exact rfl; exact rfl; exact slty28; exact rfl; exact rfl; decide; omega; unfold maxLen; omega; clear hs; intro a1 c1 w hs)
    | (refine wrap hs ?_; clear hs; intro w hs)
    | (refine wrapn hs ?_; clear hs; intro w hs)
    | (refine wrapd hs ?_; clear hs; intro w hs))
              all_goals
                go_roundw
                case rel => exact ⟨k + 1, p + 1, 0, 48, true, t ++ [c], _, _, by omega, by omega, Lib.hid (by simp [ht.out]), HN.out.2, ⟨fun _ => ⟨rfl, rfl⟩, by omega, by omega⟩, rfl, rfl, rfl, rfl, by rw [HN.out.1] at hs; simpa [nums] using hs.swap⟩
                case measure => rw [HI.out, sat.iter_pos hs.swap, HN.out.1]; omega
            · obtain ⟨rfl, rfl⟩ := hn1 rfl
              have HB := Lib.hid (hR.out.bad hlt HV.out (by omega) ⟨fun h => h.2 ⟨rfl, rfl⟩, by omega, by omega⟩)
              subst h45
              clear hx
              go_wp2_with (first
    | (apply nxd hs; exact rfl; exact rfl; exact rfl; exact hlt; exact HV.out; clear hs; intro w hs)
    | (refine wrap hs ?_; clear hs; intro w hs)
    | (refine wrapn hs ?_; clear hs; intro w hs)
    | (refine wrapd hs ?_; clear hs; intro w hs))
              refine end_ret rfl (results_tmp2 rfl _ _ _) ?_
              exact RP.no (by rw [HP.out, HB.out]; rfl) rfl hs.drop.drop
          · have f1 : ((r : Int) == 45) = false := by simp; omega
            by_cases h48 : r = 48
            · cases nn
              · have HB := Lib.hid (hR.out.bad hlt HV.out (by omega) ⟨by omega, by simp, by omega⟩)
                subst h48
                clear hx hn1 h45
                have f2 : decide (last < 48) = false := by simp; omega
                go_wp2_with (first
    | (apply nxd hs; exact rfl; exact rfl; exact rfl; exact hlt; exact HV.out; clear hs; intro w hs)
    | (refine wrap hs ?_; clear hs; intro w hs)
    | (refine wrapn hs ?_; clear hs; intro w hs)
    | (refine wrapd hs ?_; clear hs; intro w hs))
                refine end_ret rfl (results_tmp2 rfl _ _ _) ?_
                exact RP.no (by rw [HP.out, HB.out]; rfl) rfl hs.drop.drop
              · obtain ⟨rfl, rfl⟩ := hn1 rfl
                have HN := Lib.hid (hR.out.next hlt HV.out (by omega) (t' := t) (c' := 0) (last' := 56) (none' := false) (by unfold Dots.step; rw [if_neg h45, if_pos ⟨h48, rfl⟩]))
                subst h48
                clear hx h45
                go_wp2_with (first
    | (apply nxd hs; exact rfl; exact rfl; exact rfl; exact hlt; exact HV.out; clear hs; intro w hs)
    | (refine wrap hs ?_; clear hs; intro w hs)
    | (refine wrapn hs ?_; clear hs; intro w hs)
    | (refine wrapd hs ?_; clear hs; intro w hs))
                go_roundw
                case rel => exact ⟨k, p + 1, 0, 56, false, t, a, cp, by omega, by omega, ht, HN.out.2, ⟨fun h => (by cases h), by omega, by omega⟩, rfl, rfl, rfl, rfl, by rw [HN.out.1] at hs; exact hs⟩
                case measure => rw [HI.out, sat.iter_pos hs, HN.out.1]; omega
            · have HB := Lib.hid (hR.out.bad hlt HV.out (by omega) ⟨fun h => h45 h.1, fun h => h48 h.1, fun h => hx ⟨by omega, h.2⟩⟩)
              have f2 : ((r : Int) == 48) = false := by simp; omega
              by_cases hl : last < r
              · have f3 : 56 < r := by omega
                clear hx hn1 h45 h48
                cases nn
                all_goals
                  go_wp2_with (first
    | (apply nxd hs; exact rfl; exact rfl; exact rfl; exact hlt; exact HV.out; clear hs; intro w hs)
    | (refine wrap hs ?_; clear hs; intro w hs)
    | (refine wrapn hs ?_; clear hs; intro w hs)
    | (refine wrapd hs ?_; clear hs; intro w hs))
                  refine end_ret rfl (results_tmp2 rfl _ _ _) ?_
                  exact RP.no (by rw [HP.out, HB.out]; rfl) rfl hs.drop.drop
              · clear hx hn1 h45 h48
                cases nn
                all_goals
                  go_wp2_with (first
    | (apply nxd hs; exact rfl; exact rfl; exact rfl; exact hlt; exact HV.out; clear hs; intro w hs)
    | (refine wrap hs ?_; clear hs; intro w hs)
    | (refine wrapn hs ?_; clear hs; intro w hs)
    | (refine wrapd hs ?_; clear hs; intro w hs))
                  refine end_ret rfl (results_tmp2 rfl _ _ _) ?_
                  exact RP.no (by rw [HP.out, HB.out]; rfl) rfl hs.drop.drop
      · have HE := Lib.hid (show Dots.run (by_ S) .start = some ⟨t, c, last, nn⟩ by rw [show Dots.run (by_ S) .start = _ from hR.out, by_end S p hlt, run_nil])
        go_wp2_with (first
    | (apply nxe hs; exact rfl; exact rfl; exact rfl; exact hlt)
    | (refine wrap hs ?_; clear hs; intro w hs)
    | (refine wrapn hs ?_; clear hs; intro w hs)
    | (refine wrapd hs ?_; clear hs; intro w hs))
        refine end_ret rfl (results_tmp2 rfl _ _ _) ?_
        exact RP.yes (l := t) (by rw [HP.out, HE.out]; rfl) ht.out rfl hs.drop
end Go.Proofs.Ytpgnallldehgmaa
