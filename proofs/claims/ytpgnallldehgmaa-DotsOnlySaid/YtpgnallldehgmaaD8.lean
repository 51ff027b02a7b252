import Derived.Test.YtpgnallldehgmaaD6
namespace Go.Proofs.Ytpgnallldehgmaa
open Go.RowKit Go.Mem Go.Dots
variable {W w : World} {H : List HProp}
theorem by_extract (s : ByteArray) (a b : Nat) (hb : b ≤ s.size) : by_ (s.extract a b) = ((by_ s).take b).drop a := by
  unfold by_
  rw [show (s.extract a b).data = s.data.extract a b from by rw [ByteArray.data_extract], Array.toList_extract, List.map_take, List.map_drop]
  simp [List.extract, List.drop_take]
/-- What is told so far, and the part that is open. -/
def RR (L : List Nat) (i at' : Nat) (t : List Nat) : Prop := rrun (L ++ [45]) ([], []) = rrun ((L ++ [45]).drop i) (t, (L.take i).drop at')
theorem RR.char {L : List Nat} {i at' : Nat} {t : List Nat} (h : RR L i at' t) (hi : i < L.length) (ha : at' ≤ i) {b : Nat} (hb : L[i]? = some b) (h45 : b ≠ 45) : RR L (i + 1) at' t := by
  unfold RR at h ⊢
  have hg : L[i] = b := by rw [List.getElem?_eq_getElem hi] at hb; exact Option.some.inj hb
  rw [h, List.drop_eq_getElem_cons (by simp; omega), List.getElem_append_left hi, hg]
  conv => lhs; unfold rrun rstep
  rw [if_neg h45, List.take_succ_eq_append_getElem hi, hg, List.drop_append_of_le_length (l₁ := L.take i) (by rw [List.length_take, Nat.min_eq_left (by omega)]; exact ha)]
  rfl
theorem RR.sep {L : List Nat} {i at' : Nat} {t : List Nat} (h : RR L i at' t) (hi : i < L.length ∧ L[i]? = some 45 ∨ i = L.length) {c : Nat} (hc : Dots.part ((L.take i).drop at') = some c) : RR L (i + 1) (i + 1) (t ++ [c]) := by
  unfold RR at h ⊢
  have hd : (L ++ [45]).drop i = 45 :: (L ++ [45]).drop (i + 1) := by
    rw [List.drop_eq_getElem_cons (by simp; omega)]
    congr 1
    rcases hi with ⟨h1, h2⟩ | rfl
    · rw [List.getElem_append_left h1]; rw [List.getElem?_eq_getElem h1] at h2; exact Option.some.inj h2
    · simp
  rw [h, hd]
  conv => lhs; unfold rrun rstep
  rw [if_pos rfl, hc, List.drop_of_length_le (l := L.take (i + 1)) (by simp; omega)]
  rfl
theorem RR.bad {L : List Nat} {i at' : Nat} {t : List Nat} (h : RR L i at' t) (hi : i < L.length ∧ L[i]? = some 45 ∨ i = L.length) (hc : Dots.part ((L.take i).drop at') = none) : rrun (L ++ [45]) ([], []) = none := by
  unfold RR at h
  have hd : (L ++ [45]).drop i = 45 :: (L ++ [45]).drop (i + 1) := by
    rw [List.drop_eq_getElem_cons (by simp; omega)]
    congr 1
    rcases hi with ⟨h1, h2⟩ | rfl
    · rw [List.getElem_append_left h1]; rw [List.getElem?_eq_getElem h1] at h2; exact Option.some.inj h2
    · simp
  rw [h, hd]
  unfold rrun rstep
  rw [if_pos rfl, hc]; rfl
theorem RR.done {L : List Nat} {i at' : Nat} {t : List Nat} (h : RR L i at' t) (hi : i = L.length + 1) : (rrun (L ++ [45]) ([], [])).map (·.1) = some t := by
  unfold RR at h
  rw [h, List.drop_of_length_le (by simp; omega)]; rfl
theorem find_some (s : ByteArray) (c : Nat) (h : Dots.part (by_ s) = some c) (hs : sat W H w) : Calls Try.prog 20 #[.string s] w fun e w' => e = .returned (.int .i64 c) ∧ sat W H w' := by
  have := find20 s hs
  rwa [show findV s = c from by unfold findV; rw [h]] at this
theorem find_none (s : ByteArray) (h : Dots.part (by_ s) = none) (hs : sat W H w) : Calls Try.prog 20 #[.string s] w fun e w' => e = .returned (.int .i64 (-1)) ∧ sat W H w' := by
  have := find20 s hs
  rwa [show findV s = -1 from by unfold findV; rw [h]] at this
attribute [local irreducible] World.setCell World.alloc World.drew World.drewN Calls sat cel own blk old wpQuiet bs by_ cellTxt txt showB si Dots.rparse rrun RR Dots.part

set_option maxHeartbeats 1000000 in
theorem rparse17 (s : ByteArray) (hlen : s.size ≤ 10000) (hs : sat W H w) : Calls Try.prog 17 #[.string s] w (RP W H (Dots.rparse (by_ s))) := by
  by_cases h0 : s.toList = []
  · have HP := Lib.hid (show Dots.rparse (by_ s) = some [] by rw [show by_ s = [] from by rw [Go.ByteArray.toList_eq] at h0; unfold by_; rw [h0]; rfl]; unfold Dots.rparse; rfl)
    have f0 : s.toList.isEmpty = true := by rw [h0]; rfl
    go_enter Try.func17, Try.ntmps17
    go_wp2_with (first
    | (refine wrap hs ?_; clear hs; intro w hs)
    | (refine wrapn hs ?_; clear hs; intro w hs)
    | (refine wrapd hs ?_; clear hs; intro w hs))
    refine end_ret rfl (results_tmp2 rfl _ _ _) ?_
    exact RP.yes (l := []) HP.out rfl rfl (hs.own_nil 5 1)
  · have HP : Hid (Dots.rparse (by_ s) = (rrun (by_ s ++ [45]) ([], [])).map (·.1)) := by
      refine Lib.hid ?_
      unfold Dots.rparse
      rw [if_neg (fun e => h0 (by rw [← bs_by s, e]; exact str_nil.2 rfl))]
    have f0 : s.toList.isEmpty = false := by simpa using h0
    have hs := hs.own_nil 5 1
    go_enter Try.func17, Try.ntmps17
    go_wp2_with (first
    | (refine wrap hs ?_; clear hs; intro w hs)
    | (refine wrapn hs ?_; clear hs; intro w hs)
    | (refine wrapd hs ?_; clear hs; intro w hs))
    go_loopw [4, 5, 6] (fun lv av iv wr => ∃ (k at' i : Nat) (t : List Nat) (a : Option Addr) (cp : Nat), i ≤ s.size + 1 ∧ at' ≤ i ∧ k ≤ i ∧ Hid (k = t.length) ∧ Hid (RR (by_ s) i at' t) ∧ lv = .slice a k cp ∧ av = .int .i64 at' ∧ iv = .int .i64 i ∧ sat W (own 5 1 (.slice a k cp) k (nums .u8 t) :: H) wr) (fun _ _ iv w' => s.size + 1 - (intOf iv).toNat)
    case atStart => exact ⟨0, 0, 0, [], none, 0, Nat.zero_le _, Nat.zero_le _, Nat.zero_le _, rfl, Lib.hid (by unfold RR; rfl), rfl, rfl, rfl, hs⟩
    case round =>
      clear hs
      obtain ⟨k, at', i, t, a, cp, hi, hat, hk, ht, hR, rfl, rfl, rfl, hs⟩ := hrel
      by_cases hle : i ≤ s.size
      · by_cases hc : i < s.size ∧ ∀ h : i < s.size, (s[i]'h).toNat ≠ 45
        · obtain ⟨hlt, h45⟩ := hc
          have h45 := h45 hlt
          have HR2 := Lib.hid (hR.out.char (by rw [by_size]; exact hlt) hat (by_get s i hlt) h45)
          generalize e0 : (s[i]'hlt).toNat = x0 at *
          have f1 : ((x0 : Int) == 45) = false := by simp; omega
          go_wp2_with (first
    | (refine wrap hs ?_; clear hs; intro w hs)
    | (refine wrapn hs ?_; clear hs; intro w hs)
    | (refine wrapd hs ?_; clear hs; intro w hs))
          go_roundw
          case rel => exact ⟨k, at', i + 1, t, a, cp, by omega, by omega, by omega, ht, HR2.out, rfl, rfl, by go_num, hs⟩
          case measure => simp [intOf]; omega
        · have hsep : i < (by_ s).length ∧ (by_ s)[i]? = some 45 ∨ i = (by_ s).length := by
            rw [by_size]
            by_cases hlt : i < s.size
            · left
              refine ⟨hlt, ?_⟩
              rw [by_get s i hlt]
              congr 1
              exact Decidable.of_not_not fun h => hc ⟨hlt, fun _ => h⟩
            · right; omega
          have HX := Lib.hid (by_extract s at' i (by omega))
          cases hp : Dots.part ((by_ s).take i |>.drop at') with
          | none =>
            have HP2 := Lib.hid (show Dots.part (by_ (s.extract at' i)) = none by rw [HX.out, hp])
            have HB := Lib.hid (hR.out.bad hsep hp)
            clear hp hsep
            by_cases hlt : i < s.size
            · have f0 : (s[i]'hlt).toNat = 45 := Decidable.of_not_not fun h => hc ⟨hlt, fun _ => h⟩
              clear hc
              go_wp2_with (first
    | (go_at_call 20; refine (find_none _ HP2.out hs).mono ?_; clear hs; rintro e w ⟨rfl, hs⟩)
    | (refine wrap hs ?_; clear hs; intro w hs)
    | (refine wrapn hs ?_; clear hs; intro w hs)
    | (refine wrapd hs ?_; clear hs; intro w hs))
              refine end_ret rfl (results_tmp2 rfl _ _ _) ?_
              exact RP.no (by rw [HP.out, HB.out]; rfl) rfl hs.drop
            · clear hc
              go_wp2_with (first
    | (go_at_call 20; refine (find_none _ HP2.out hs).mono ?_; clear hs; rintro e w ⟨rfl, hs⟩)
    | (refine wrap hs ?_; clear hs; intro w hs)
    | (refine wrapn hs ?_; clear hs; intro w hs)
    | (refine wrapd hs ?_; clear hs; intro w hs))
              refine end_ret rfl (results_tmp2 rfl _ _ _) ?_
              exact RP.no (by rw [HP.out, HB.out]; rfl) rfl hs.drop
          | some c =>
            have hc8 := (part_some hp).1
            have HP2 := Lib.hid (show Dots.part (by_ (s.extract at' i)) = some c by rw [HX.out, hp])
            have HR2 := Lib.hid (hR.out.sep hsep hp)
            clear hp hsep
            by_cases hlt : i < s.size
            · have f0 : (s[i]'hlt).toNat = 45 := Decidable.of_not_not fun h => hc ⟨hlt, fun _ => h⟩
              clear hc
              go_wp2_with (first
    | (go_at_call 20; refine (find_some _ _ HP2.out hs).mono ?_; clear hs; rintro e w ⟨rfl, hs⟩)
    | (apply app hs.b1; exact rfl; exact rfl; exact rfl; exact rfl; exact slty28; exact rfl; exact rfl; decide; omega; unfold maxLen; omega; clear hs; intro a1 c1 w hs)
    | (refine wrap hs ?_; clear hs; intro w hs)
    | (refine wrapn hs ?_; clear hs; intro w hs)
    | (refine wrapd hs ?_; clear hs; intro w hs))
              go_roundw
              case rel => exact ⟨k + 1, i + 1, i + 1, t ++ [c], _, _, by omega, by omega, by omega, Lib.hid (by simp [ht.out]), HR2.out, rfl, by go_num, by go_num, by simpa [nums] using hs⟩
              case measure => simp [intOf]; omega
            · clear hc
              go_wp2_with (first
    | (go_at_call 20; refine (find_some _ _ HP2.out hs).mono ?_; clear hs; rintro e w ⟨rfl, hs⟩)
    | (apply app hs.b1; exact rfl; exact rfl; exact rfl; exact rfl; exact slty28; exact rfl; exact rfl; decide; omega; unfold maxLen; omega; clear hs; intro a1 c1 w hs)
    | (refine wrap hs ?_; clear hs; intro w hs)
    | (refine wrapn hs ?_; clear hs; intro w hs)
    | (refine wrapd hs ?_; clear hs; intro w hs))
              go_roundw
              case rel => exact ⟨k + 1, i + 1, i + 1, t ++ [c], _, _, by omega, by omega, by omega, Lib.hid (by simp [ht.out]), HR2.out, rfl, by go_num, by go_num, by simpa [nums] using hs⟩
              case measure => simp [intOf]; omega
      · have HE := Lib.hid (hR.out.done (by rw [by_size]; omega))
        go_wp2_with (first
    | (refine wrap hs ?_; clear hs; intro w hs)
    | (refine wrapn hs ?_; clear hs; intro w hs)
    | (refine wrapd hs ?_; clear hs; intro w hs))
        refine end_ret rfl (results_tmp2 rfl _ _ _) ?_
        exact RP.yes (l := t) (by rw [HP.out, HE.out]) ht.out rfl hs
end Go.Proofs.Ytpgnallldehgmaa
