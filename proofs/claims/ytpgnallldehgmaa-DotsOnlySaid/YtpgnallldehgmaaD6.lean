import Derived.Test.YtpgnallldehgmaaD5
namespace Go.Proofs.Ytpgnallldehgmaa
open Go.RowKit Go.Mem Go.Dots
variable {W w : World} {H : List HProp}
/-- The cells, and the error. -/
def RP (W : World) (H : List HProp) (R : Option (List Nat)) (e : Ending) (w' : World) : Prop :=
  ∃ a c, e = .returned (.tuple #[.slice a (R.getD []).length c, .int .i64 (if R.isSome then 0 else 5)]) ∧ sat W (own 5 1 (.slice a (R.getD []).length c) (R.getD []).length (nums .u8 (R.getD [])) :: H) w'
theorem RP.yes {R : Option (List Nat)} {l : List Nat} {n c : Nat} {a : Option Addr} {e : Ending} {w' : World} (hR : R = some l) (hn : n = l.length) (he : e = .returned (.tuple #[.slice a n c, .int .i64 0])) (hs : sat W (own 5 1 (.slice a n c) n (nums .u8 l) :: H) w') : RP W H R e w' := by
  subst hR; subst hn; exact ⟨a, c, he, hs⟩
theorem RP.no {R : Option (List Nat)} {e : Ending} {w' : World} (hR : R = none) (he : e = .returned (.tuple #[.slice none 0 0, .int .i64 5])) (hs : sat W H w') : RP W H R e w' := by
  subst hR; exact ⟨none, 0, he, hs.own_nil 5 1⟩
theorem by_get (s : ByteArray) (i : Nat) (h : i < s.size) : (by_ s)[i]? = some (s[i]'h).toNat := by
  unfold by_
  rw [List.getElem?_map, Array.getElem?_toList, Array.getElem?_eq_getElem (by simpa using h)]; rfl
theorem by_drop (s : ByteArray) (i : Nat) (h : i < s.size) : (by_ s).drop i = (s.get! i).toNat :: (by_ s).drop (i + 1) := by
  rw [List.drop_eq_getElem_cons (by rw [by_size]; exact h)]
  congr 1
  have h1 := by_get s i h
  rw [List.getElem?_eq_getElem (by rw [by_size]; exact h)] at h1
  have h2 := get_at s i h
  rw [Nat.add_zero] at h2
  rw [h2]
  exact Option.some.inj h1
theorem by_end (s : ByteArray) (i : Nat) (h : ¬ i < s.size) : (by_ s).drop i = [] := List.drop_of_length_le (by rw [by_size]; omega)
theorem read_step (s : ByteArray) (p : Nat) (hp : p < s.size) :
    ((10240 ≤ (Utf8.decode s p).1 ∧ (Utf8.decode s p).1 ≤ 10495) ∧ (Utf8.decode s p).2 = 3 ∧ p + 3 ≤ s.size ∧ read ((by_ s).drop p) = (read ((by_ s).drop (p + 3))).map (((Utf8.decode s p).1 - 10240) :: ·)) ∨
    (¬(10240 ≤ (Utf8.decode s p).1 ∧ (Utf8.decode s p).1 ≤ 10495) ∧ read ((by_ s).drop p) = none) := by
  rw [Lib.decode_at]
  have b0 := (s.get! p).toNat_lt
  have b1 := (s.get! (p + 1)).toNat_lt
  have b2 := (s.get! (p + 2)).toNat_lt
  have b3 := (s.get! (p + 3)).toNat_lt
  by_cases h : 10240 ≤ (Lib.decodeN (s.size - p) (s.get! p).toNat (s.get! (p + 1)).toNat (s.get! (p + 2)).toNat (s.get! (p + 3)).toNat).1 ∧ (Lib.decodeN (s.size - p) (s.get! p).toNat (s.get! (p + 1)).toNat (s.get! (p + 2)).toNat (s.get! (p + 3)).toNat).1 ≤ 10495
  · left
    obtain ⟨h3, hi⟩ := decode3_only _ _ _ _ _ b0 b1 b2 b3 h
    have hd := decode3 (s.size - p) _ _ _ (s.get! (p + 3)).toNat h3 hi
    rw [hd] at h ⊢
    refine ⟨h, rfl, by omega, ?_⟩
    rw [by_drop s p hp, by_drop s (p + 1) (by omega), by_drop s (p + 1 + 1) (by omega), read_cons, if_pos hi, Nat.add_sub_cancel_left]
  · right
    refine ⟨h, ?_⟩
    by_cases h1 : p + 1 < s.size
    · by_cases h2 : p + 2 < s.size
      · rw [by_drop s p hp, by_drop s (p + 1) h1, by_drop s (p + 1 + 1) h2, read_cons, if_neg]
        intro hi
        rw [decode3 _ _ _ _ _ (by omega) hi] at h
        unfold is3 at hi
        unfold val3 at h
        simp only at h
        omega
      · rw [by_drop s p hp, by_drop s (p + 1) h1, by_end s (p + 1 + 1) (by omega)]; rfl
    · rw [by_drop s p hp, by_end s (p + 1) h1]; rfl
theorem rread_step (s : ByteArray) (p : Nat) (hp : p + 2 < s.size) : Dots.read ((by_ s).drop p) = if is3 (s[p]'(by omega)).toNat (s[p + 1]'(by omega)).toNat (s[p + 2]'hp).toNat then (Dots.read ((by_ s).drop (p + 3))).map (val3 (s[p + 1]'(by omega)).toNat (s[p + 2]'hp).toNat :: ·) else none := by
  have g0 : s.get! p = s[p]'(by omega) := get_at s p (by omega)
  have g1 : s.get! (p + 1) = s[p + 1]'(by omega) := get_at s (p + 1) (by omega)
  have g2 : s.get! (p + 1 + 1) = s[p + 2]'hp := get_at s (p + 2) hp
  rw [by_drop s p (by omega), by_drop s (p + 1) (by omega), by_drop s (p + 1 + 1) (by omega), read_cons, g0, g1, g2]
theorem rread_end (s : ByteArray) (p : Nat) (hp : p < s.size) (h2 : ¬ p + 2 < s.size) : Dots.read ((by_ s).drop p) = none := by
  rw [by_drop s p hp]
  by_cases h1 : p + 1 < s.size
  · rw [by_drop s (p + 1) h1, by_end s (p + 1 + 1) (by omega)]; rfl
  · rw [by_end s (p + 1) h1]; rfl
attribute [local irreducible] World.setCell World.alloc World.drew World.drewN Calls sat cel own blk old wpQuiet bs by_ cellTxt txt showB si Dots.read Utf8.decode

theorem cell7_c (c : Nat) (h : c < 256) (w : World) : Calls Try.prog 7 #[.int .i32 (10240 + c : Nat)] w fun e w' => e = .returned (.tuple #[.int .u8 c, .int .i64 0]) ∧ w' = w := by
  have := cell7_yes (10240 + c : Nat) (by omega) w
  rwa [show (((10240 + c : Nat) : Int) - 10240) = c from by omega] at this
set_option maxHeartbeats 1000000 in
theorem read13 (s : ByteArray) (hlen : s.size ≤ 10000) (hs : sat W H w) : Calls Try.prog 13 #[.string s] w (RP W H (Dots.read (by_ s))) := by
  have hs := hs.own_nil 5 1
  go_enter Try.func13, Try.ntmps13
  go_wp2_with (first
    | (refine wrap hs ?_; clear hs; intro w hs)
    | (refine wrapn hs ?_; clear hs; intro w hs)
    | (refine wrapd hs ?_; clear hs; intro w hs))
  have hs := hs.iter s
  generalize w.iter s 0 = w1 at *
  generalize w.heap.size = g at *
  go_loopw [4] (fun lv wr => ∃ (k p : Nat) (t : List Nat) (a : Option Addr) (cp : Nat), p ≤ s.size ∧ k ≤ p ∧ Hid (k = t.length) ∧ Hid (Dots.read (by_ s) = (Dots.read ((by_ s).drop p)).map (t ++ ·)) ∧ lv = .slice a k cp ∧ sat W (si g s p :: own 5 1 (.slice a k cp) k (nums .u8 t) :: H) wr) (fun _ w' => s.size - w'.iterPos g)
  case atStart => exact ⟨0, 0, [], none, 0, Nat.zero_le _, Nat.zero_le _, rfl, Lib.hid (by simp), rfl, hs⟩
  case round =>
    clear hs
    obtain ⟨k, p, t, a, cp, hp, hk, ht, hR, rfl, hs⟩ := hrel
    have HI := Lib.hid (sat.iter_pos hs)
    by_cases hlt : p < s.size
    · rcases read_step s p hlt with ⟨hr, hw, hp3, hd⟩ | ⟨hr, hd⟩
      · obtain ⟨c, hc8, hde, HD⟩ : ∃ c, c < 256 ∧ Utf8.decode s p = (10240 + c, 3) ∧ Hid (Dots.read ((by_ s).drop p) = (Dots.read ((by_ s).drop (p + 3))).map (c :: ·)) :=
          ⟨(Utf8.decode s p).1 - 10240, by omega, by rw [← hw]; ext <;> simp only; omega, hd⟩
        clear hw hd hr
        have HV := Lib.hid hde
        clear hde
        go_wp2_with (first
    | (apply nxd hs; exact rfl; exact rfl; exact rfl; exact hlt; exact HV.out; clear hs; intro w hs)
    | (go_at_call 7; refine (cell7_c _ hc8 _).mono ?_; rintro e w ⟨rfl, rfl⟩)
    | (apply app hs.b2; exact rfl; exact rfl; exact rfl; exact rfl; exact slty28; exact rfl; exact rfl; decide; omega; unfold maxLen; omega; clear hs; intro a1 c1 w hs)
    | (refine wrap hs ?_; clear hs; intro w hs)
    | (refine wrapn hs ?_; clear hs; intro w hs)
    | (refine wrapd hs ?_; clear hs; intro w hs))
        go_roundw
        case rel => exact ⟨k + 1, p + 3, t ++ [c], _, _, by omega, by omega, Lib.hid (by simp [ht.out]), Lib.hid (by rw [hR.out, HD.out, Option.map_map]; congr 1; funext x; simp), rfl, by simpa [nums] using hs.swap⟩
        case measure => rw [HI.out, sat.iter_pos hs.swap]; omega
      · have HD := Lib.hid hd
        clear hd
        generalize hde : Utf8.decode s p = v at *
        obtain ⟨r, wd⟩ := v
        have HV := Lib.hid hde
        clear hde
        have hr' : ¬(10240 ≤ (r : Int) ∧ (r : Int) ≤ 10495) := by simp only at hr; omega
        clear hr
        have HR' := Lib.hid hr'
        clear hr'
        go_wp2_with (first
    | (apply nxd hs; exact rfl; exact rfl; exact rfl; exact hlt; exact HV.out; clear hs; intro w hs)
    | (go_at_call 7; refine (cell7_no _ HR'.out _).mono ?_; rintro e w ⟨rfl, rfl⟩)
    | (apply app hs.b2; exact rfl; exact rfl; exact rfl; exact rfl; exact slty28; exact rfl; exact rfl; decide; omega; unfold maxLen; omega; clear hs; intro a1 c1 w hs)
    | (refine wrap hs ?_; clear hs; intro w hs)
    | (refine wrapn hs ?_; clear hs; intro w hs)
    | (refine wrapd hs ?_; clear hs; intro w hs))
        refine end_ret rfl (results_tmp2 rfl _ _ _) ?_
        exact RP.no (by rw [hR.out, HD.out]; rfl) rfl hs.drop.drop
    · have HK := Lib.hid (show p = s.size by omega)
      go_wp2_with (first
    | (apply nxe hs; exact rfl; exact rfl; exact rfl; exact hlt)
    | (refine wrap hs ?_; clear hs; intro w hs)
    | (refine wrapn hs ?_; clear hs; intro w hs)
    | (refine wrapd hs ?_; clear hs; intro w hs))
      refine end_ret rfl (results_tmp2 rfl _ _ _) ?_
      exact RP.yes (l := t) (by rw [hR.out, by_end s p (by have := HK.out; omega)]; unfold Dots.read; simp) ht.out rfl hs.drop

set_option maxHeartbeats 1000000 in
theorem rread18 (s : ByteArray) (hlen : s.size ≤ 10000) (hs : sat W H w) : Calls Try.prog 18 #[.string s] w (RP W H (Dots.read (by_ s))) := by
  have hs := hs.own_nil 5 1
  go_enter Try.func18, Try.ntmps18
  go_wp2_with (first
    | (refine wrap hs ?_; clear hs; intro w hs)
    | (refine wrapn hs ?_; clear hs; intro w hs)
    | (refine wrapd hs ?_; clear hs; intro w hs))
  go_loopw [4, 5] (fun lv i wr => ∃ (k p : Nat) (t : List Nat) (a : Option Addr) (cp : Nat), p ≤ s.size ∧ k ≤ p ∧ Hid (k = t.length) ∧ Hid (Dots.read (by_ s) = (Dots.read ((by_ s).drop p)).map (t ++ ·)) ∧ i = .int .i64 p ∧ lv = .slice a k cp ∧ sat W (own 5 1 (.slice a k cp) k (nums .u8 t) :: H) wr) (fun _ i _ => s.size - (intOf i).toNat)
  case atStart => exact ⟨0, 0, [], none, 0, Nat.zero_le _, Nat.zero_le _, rfl, Lib.hid (by simp), rfl, rfl, hs⟩
  case round =>
    clear hs
    obtain ⟨k, p, t, a, cp, hp, hk, ht, hR, rfl, rfl, hs⟩ := hrel
    by_cases hlt : p < s.size
    · by_cases h2 : p + 2 < s.size
      · have HD := Lib.hid (rread_step s p h2)
        have y1 := (s[p + 1]'(by omega)).toNat_lt
        have y2 := (s[p + 2]'h2).toNat_lt
        generalize e0 : (s[p]'hlt).toNat = x0 at *
        generalize e1 : (s[p + 1]'(by omega)).toNat = x1 at *
        generalize e2 : (s[p + 2]'h2).toNat = x2 at *
        by_cases hi : is3 x0 x1 x2
        · have HI := Lib.hid (show Dots.read ((by_ s).drop p) = (Dots.read ((by_ s).drop (p + 3))).map (val3 x1 x2 :: ·) by rw [HD.out, if_pos hi])
          obtain ⟨rfl, i1, i2, i3, i4⟩ := hi
          go_wp2_with (first
    | (refine wrap hs ?_; clear hs; intro w hs)
    | (refine wrapn hs ?_; clear hs; intro w hs)
    | (refine wrapd hs ?_; clear hs; intro w hs))
          have a1 : IntKind.u8.wrap ((x1 : Int) - 160) = (x1 : Int) - 160 := IntWalk.u8_in _ (by omega)
          have a2 : IntKind.u8.wrap (((x1 : Int) - 160) * 64) = ((x1 : Int) - 160) * 64 := IntWalk.u8_in _ (by omega)
          have a3 : IntKind.u8.wrap (IntKind.u8.wrap (((x1 : Int) - 160) * 64 + x2) - 128) = (val3 x1 x2 : Nat) := by rw [IntKind.wrap_u8, IntKind.wrap_u8]; unfold val3; omega
          have a4 : IntKind.i64.wrap ((p : Int) + 1) = (p : Int) + 1 := IntWalk.i64_in _ (by omega)
          have a5 : IntKind.i64.wrap ((p : Int) + 2) = (p : Int) + 2 := IntWalk.i64_in _ (by omega)
          have a6 : (0 : Int) ≤ (p : Int) + 1 := by omega
          have a7 : (p : Int) + 1 < (s.size : Int) := by omega
          have a8 : (0 : Int) ≤ (p : Int) + 2 := by omega
          have a9 : (p : Int) + 2 < (s.size : Int) := by omega
          have b1 : ((p : Int) + 1).toNat = p + 1 := by omega
          have b2 : ((p : Int) + 2).toNat = p + 2 := by omega
          (go_region_held3 (fun w' => True) (first | trivial) (first | (refine sapp (hs.made.drew.b1) rfl rfl rfl rfl slty28 ?_ ?_ ?_ ?_ ?_ ?_; exact rfl; exact rfl; decide; omega; (unfold maxLen; omega); clear hs; intro a1 c1 w hs)))
          all_goals
            go_wp2_with (first
    | (refine wrap hs ?_; clear hs; intro w hs)
    | (refine wrapn hs ?_; clear hs; intro w hs)
    | (refine wrapd hs ?_; clear hs; intro w hs))
            go_roundw
            case rel => exact ⟨k + 1, p + 3, t ++ [val3 x1 x2], _, _, by omega, by omega, Lib.hid (by simp [ht.out]), Lib.hid (by rw [hR.out, HI.out, Option.map_map]; congr 1; funext x; simp), by go_num, rfl, by simpa [nums] using hs⟩
            case measure => simp [intOf]; omega
        · have HI := Lib.hid (show Dots.read (by_ s) = none by rw [hR.out, HD.out, if_neg hi]; rfl)
          have hc : x0 ≠ 226 ∨ (x0 = 226 ∧ x1 < 160) ∨ (x0 = 226 ∧ 160 ≤ x1 ∧ 163 < x1) ∨ (x0 = 226 ∧ 160 ≤ x1 ∧ x1 ≤ 163 ∧ x2 < 128) ∨ (x0 = 226 ∧ 160 ≤ x1 ∧ x1 ≤ 163 ∧ 128 ≤ x2 ∧ 191 < x2) := by unfold is3 at hi; omega
          clear hi
          rcases hc with c0 | ⟨rfl, c1⟩ | ⟨rfl, c1, c2⟩ | ⟨rfl, c1, c2, c3⟩ | ⟨rfl, c1, c2, c3, c4⟩
          · have f0 : ((x0 : Int) == 226) = false := by simp; omega
            go_wp2_with (first
    | (refine wrap hs ?_; clear hs; intro w hs)
    | (refine wrapn hs ?_; clear hs; intro w hs)
    | (refine wrapd hs ?_; clear hs; intro w hs))
            refine end_ret rfl (results_tmp2 rfl _ _ _) ?_
            exact RP.no HI.out rfl hs.drop
          all_goals
            go_wp2_with (first
    | (refine wrap hs ?_; clear hs; intro w hs)
    | (refine wrapn hs ?_; clear hs; intro w hs)
    | (refine wrapd hs ?_; clear hs; intro w hs))
            refine end_ret rfl (results_tmp2 rfl _ _ _) ?_
            exact RP.no HI.out rfl hs.drop
      · have HI := Lib.hid (show Dots.read (by_ s) = none by rw [hR.out, rread_end s p hlt h2]; rfl)
        go_wp2_with (first
    | (refine wrap hs ?_; clear hs; intro w hs)
    | (refine wrapn hs ?_; clear hs; intro w hs)
    | (refine wrapd hs ?_; clear hs; intro w hs))
        refine end_ret rfl (results_tmp2 rfl _ _ _) ?_
        exact RP.no HI.out rfl hs.drop
    · have HK := Lib.hid (show p = s.size by omega)
      go_wp2_with (first
    | (refine wrap hs ?_; clear hs; intro w hs)
    | (refine wrapn hs ?_; clear hs; intro w hs)
    | (refine wrapd hs ?_; clear hs; intro w hs))
      refine end_ret rfl (results_tmp2 rfl _ _ _) ?_
      exact RP.yes (l := t) (by rw [hR.out, by_end s p (by have := HK.out; omega)]; unfold Dots.read; simp) ht.out rfl hs
end Go.Proofs.Ytpgnallldehgmaa
