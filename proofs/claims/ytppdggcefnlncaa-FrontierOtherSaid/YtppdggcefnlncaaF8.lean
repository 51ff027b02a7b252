import Derived.Test.YtppdggcefnlncaaF9
namespace Go.Proofs.Ytppdggcefnlncaa
open Go.RowKit Go.Mem Go.Front
variable {W w : World} {H : List HProp}
theorem row35 : rowTy Try.prog 35 12 = true := by kernel_rfl
theorem slty32 : SlTy Try.prog 32 35 12 56 := ⟨Try.underlying32, by obtain ⟨i0, hi, hz0, hz1, hz2⟩ := info_parts (show (Try.prog.info? 35).map (fun i => (i.zero, i.size, i.bytes)) = some (some (.agg #[.int .u8 0, .int .u64 0, .int .i64 0, .int .i64 0, .bool false, .int .i32 0, .bool false, .bool false, .bool false, .bool false, .bool false, .int .u8 0]), 12, 56) by kernel_rfl); exact ⟨i0, _, hi, hz0, hz1, hz2, rfl⟩, by decide⟩
theorem step_len {L : List Step} : ∀ r ∈ L.map stepL, r.length = 12 := fun r hr => by
  obtain ⟨x, _, rfl⟩ := List.mem_map.1 hr
  rfl
theorem flat_snoc (L : List Step) (x : Step) : (L.map stepL).flatten ++ stepL x = ((L ++ [x]).map stepL).flatten := by simp
theorem flat_snoc' (L : List Step) (k i0 i1 i2 rr K : Int) (wd bl la fr wr' ec : Bool) : (L.map stepL).flatten ++ [.int .u8 k, .int .u64 i0, .int .i64 i1, .int .i64 i2, .bool wd, .int .i32 rr, .bool bl, .bool la, .bool fr, .bool wr', .bool ec, .int .u8 K] = ((L ++ [Step.mk ⟨k, i0, i1, i2, wd, rr, bl, la, fr, wr'⟩ ec K]).map stepL).flatten := flat_snoc L (Step.mk ⟨k, i0, i1, i2, wd, rr, bl, la, fr, wr'⟩ ec K)
theorem kind11_o {L : List Step} {e : Ev} {echo : Bool} {a : Option Addr} {n cap : Nat} {K : Int} (hK : kindR L.reverse e echo = K) (hs : sat W (own 35 12 (.slice a n cap) n (L.map stepL).flatten :: H) w) :
    Calls Try.prog 11 #[.slice a n cap, evV e, .bool echo] w fun e' w' => e' = .returned (.int .u8 K) ∧ sat W (own 35 12 (.slice a n cap) n (L.map stepL).flatten :: H) w' := by
  subst hK
  exact kind11 L e echo a n cap (SR.of_own hs (by decide) step_len) hs
theorem on12_o {L : List Step} {a : Option Addr} {n cap : Nat} {on : Bool} (hK : onR L.reverse = on) (hs : sat W (own 35 12 (.slice a n cap) n (L.map stepL).flatten :: H) w) :
    Calls Try.prog 12 #[.slice a n cap] w fun e' w' => e' = .returned (.bool on) ∧ sat W (own 35 12 (.slice a n cap) n (L.map stepL).flatten :: H) w' := by
  subst hK
  exact on12 L a n cap (SR.of_own hs (by decide) step_len) hs
theorem feed_n {s : St} {e : Ev} {echo : Bool} (hw : wfE e) (b : Nat) (hs : sat W (cel b 39 (stL s) :: H) w) : Calls Try.prog 9 #[.pointer (some ⟨b, 0, none⟩), evV e, .bool echo] w fun e' w' => ∃ k, e' = .returned (.int .u8 k) ∧ ∃ s', sat W (cel b 39 (stL s') :: H) w' :=
  (feed9 s e echo hw b hs).mono fun _ _ ⟨h1, h2⟩ => ⟨_, h1, _, h2⟩
theorem on_s {s : St} {on : Bool} (h : (!s.off) = on) (b : Nat) (hs : sat W (cel b 39 (stL s) :: H) w) : Calls Try.prog 8 #[.pointer (some ⟨b, 0, none⟩)] w fun e' w' => e' = .returned (.bool on) ∧ sat W (cel b 39 (stL s) :: H) w' := by
  subst h
  exact on8 s b hs
attribute [local irreducible] World.setCell World.setCells World.alloc World.drew World.drewN Calls sat cel own blk old wpQuiet wpList World.rangeAt
theorem kinds_guard (a : Option Addr) (n c : Nat) (v u : Value) (h : 200 < n) (hc : n ≤ maxLen) (hs : sat W H w) : Calls Try.prog 4 #[.slice a n c, v, u] w fun e w' => e = .returned (.bool true) ∧ sat W H w' := by
  unfold maxLen at hc
  go_enter Try.func4, Try.ntmps4
  go_wp2_with (first | (go_at_call 6; refine (known6 hs).mono ?_; clear hs; rintro e w ⟨rfl, hs⟩) | ((with_reducible refine isl ?_); first | ((with_reducible refine wrap hs ?_); clear hs; intro w hs) | ((with_reducible refine wrapn hs ?_); clear hs; intro w hs) | ((with_reducible refine wrapd hs ?_); clear hs; intro w hs)))
  go_ret
  exact ⟨rfl, hs⟩
set_option maxHeartbeats 4000000 in
theorem kinds_walk (l : List Ev) (m : List Bool) (w0 : World) (a : Option Addr) (n c : Nat) (b2 : Option Addr) (n2 c2 : Nat) (at' : Int) (hl : SR 10 W (old w0 :: H) a n c (l.map evL)) (hm : SR 1 W (old w0 :: H) b2 n2 c2 (m.map fun b => [.bool b])) (hok : ∀ e ∈ l, wfE e) (hg : n ≤ 200) (hs : sat W (old w0 :: H) w) : Calls Try.prog 4 #[.slice a n c, .slice b2 n2 c2, .int .i64 at'] w fun e w' => e = .returned (.bool true) ∧ sat W (old w0 :: H) w' := by
  have HL := Lib.hid hl
  have HM := Lib.hid hm
  have HOK := Lib.hid hok
  have hn2 : n2 ≤ maxLen := Nat.le_trans hm.2.1 hm.2.2.1
  unfold maxLen at hn2
  clear hl hm hok
  go_enter Try.func4, Try.ntmps4
  go_wp2_with (first | (go_at_call 7; refine (new7 hs).mono ?_; clear hs; rintro e w ⟨zf, rfl, hs⟩) | ((with_reducible refine isl ?_); first | ((with_reducible refine wrap hs ?_); clear hs; intro w hs) | ((with_reducible refine wrapn hs ?_); clear hs; intro w hs) | ((with_reducible refine wrapd hs ?_); clear hs; intro w hs)))
  go_loopw [7, 8, 9, 10, 11, 12, 13, 21] (fun f7 s8 _ _ _ _ _ i wr => ∃ (j zf : Nat) (s : St) (L : List Step) (sa : Option Addr) (sc : Nat), j ≤ n ∧ f7 = .pointer (some ⟨zf, 0, none⟩) ∧ s8 = .slice sa j sc ∧ i = .int .i64 (j : Int) ∧ Hid (Tied s L.reverse) ∧ sat W (own 35 12 (.slice sa j sc) j (L.map stepL).flatten :: cel zf 39 (stL s) :: old w0 :: H) wr) (fun _ _ _ _ _ _ _ i _ => ((n : Int) - intOf i).toNat)
  case atStart => exact ⟨0, zf, new, [], none, 0, Nat.zero_le _, rfl, rfl, rfl, Lib.hid tied_new, hs.own_nil 35 12⟩
  case round =>
    clear hs
    obtain ⟨j, zf, s, L, sa, sc, hj, rfl, rfl, rfl, HT, hs⟩ := hrel
    by_cases hjn : j < n
    · obtain ⟨e, he, b, o, rfl, hc⟩ := HL.out.getm hs.drop.drop hjn
      have HW := Lib.hid (HOK.out e (List.mem_of_getElem? he))
      clear he
      obtain ⟨ec, hec⟩ : ∃ ec : Bool, (j < n2 → ∃ b o, b2 = some ⟨b, o, none⟩ ∧ ∀ w', sat W (old w0 :: H) w' → w'.cell? ⟨b, o + j, none⟩ = some (.bool ec)) ∧ (¬ j < n2 → ec = false) := by
        by_cases h : j < n2
        · obtain ⟨x, _, b, o, e, h2⟩ := HM.out.getb hs.drop.drop h
          exact ⟨x, fun _ => ⟨b, o, e, h2⟩, fun h' => absurd h h'⟩
        · exact ⟨false, fun h' => absurd h' h, fun _ => rfl⟩
      obtain ⟨k, i0, i1, i2, wd, rr, bl, la, fr, wr'⟩ := e
      have HC : Hid (∀ w', sat W (old w0 :: H) w' → w'.rangeAt b (o + j * 10) [.int .u8 k, .int .u64 i0, .int .i64 i1, .int .i64 i2, .bool wd, .int .i32 rr, .bool bl, .bool la, .bool fr, .bool wr']) := Lib.hid hc
      clear hc
      go_upto_region 8 with (first | (apply ldsc; exact rfl; exact rfl; exact rfl; exact HC.out _ (by (first | exact hs.dropN 0 | exact hs.dropN 1 | exact hs.dropN 2 | exact hs.dropN 3 | exact hs.dropN 4 | exact hs.dropN 5 | exact hs.dropN 6 | exact hs.dropN 7 | exact hs.dropN 8 | exact hs.dropN 9 | exact hs.dropN 10 | exact hs.dropN 11 | exact hs.dropN 12 | exact hs.dropN 13 | exact hs.dropN 14 | exact hs.dropN 15)); exact row29) | ((with_reducible refine isl ?_); first | ((with_reducible apply stsw hs); exact rfl; exact rfl; exact rfl; exact rfl; exact row29; exact rfl; exact rfl; exact rfl; clear hs; intro w hs) | ((with_reducible refine wrap hs ?_); clear hs; generalize wr.heap.size = z7; intro w hs) | ((with_reducible apply ld hs.b0); exact rfl; exact rfl; exact rfl; exact rfl; kernel_rfl) | ((with_reducible apply st hs.b0); exact rfl; exact rfl; exact rfl; exact rfl; exact rfl; exact rfl; kernel_rfl; exact rfl; clear hs; intro w hs) | ((with_reducible apply stc hs.b0); exact rfl; exact rfl; exact rfl; exact rfl; exact rfl; kernel_rfl; exact rfl; clear hs; intro w hs) | ((with_reducible refine wrap hs ?_); clear hs; intro w hs) | ((with_reducible refine wrapn hs ?_); clear hs; intro w hs) | ((with_reducible refine wrapd hs ?_); clear hs; intro w hs)))
      (try simp only [Act.put, List.setIfInBounds_toArray, List.set_cons_succ, List.set_cons_zero])
      go_cut [11] from 26 to 72 (fun s11 wx => s11 = .bool ec ∧ sat W (cel z7 29 [.int .u8 k, .int .u64 i0, .int .i64 i1, .int .i64 i2, .bool wd, .int .i32 rr, .bool bl, .bool la, .bool fr, .bool wr'] :: own 35 12 (.slice sa j sc) j (L.map stepL).flatten :: cel zf 39 (stL s) :: old w0 :: H) wx)
      case first =>
        by_cases hj2 : j < n2
        · obtain ⟨b, o, rfl, hb⟩ := hec.1 hj2
          have HE := Lib.hid hb
          clear hb hec
          go_wp2_with (first | (apply ldc; exact rfl; exact rfl; exact rfl; exact HE.out _ (by (first | exact hs.dropN 0 | exact hs.dropN 1 | exact hs.dropN 2 | exact hs.dropN 3 | exact hs.dropN 4 | exact hs.dropN 5 | exact hs.dropN 6 | exact hs.dropN 7 | exact hs.dropN 8 | exact hs.dropN 9 | exact hs.dropN 10 | exact hs.dropN 11 | exact hs.dropN 12 | exact hs.dropN 13 | exact hs.dropN 14 | exact hs.dropN 15)); kernel_rfl) | ((with_reducible refine isl ?_); first | ((with_reducible refine wrap hs ?_); clear hs; intro w hs) | ((with_reducible refine wrapn hs ?_); clear hs; intro w hs) | ((with_reducible refine wrapd hs ?_); clear hs; intro w hs)))
          go_meet
          case rel => exact ⟨rfl, hs⟩
        · have := hec.2 hj2
          subst this
          clear hec
          go_wp2_with (first | ((with_reducible refine isl ?_); first | ((with_reducible refine wrap hs ?_); clear hs; intro w hs) | ((with_reducible refine wrapn hs ?_); clear hs; intro w hs) | ((with_reducible refine wrapd hs ?_); clear hs; intro w hs)))
          go_meet
          case rel => exact ⟨rfl, hs⟩
      case rest =>
        clear hs hec
        obtain ⟨rfl, hs⟩ := hcut
        obtain ⟨K, hK⟩ : ∃ K, kindR L.reverse ⟨k, i0, i1, i2, wd, rr, bl, la, fr, wr'⟩ ec = K := ⟨_, rfl⟩
        obtain ⟨s', hs'⟩ : ∃ s', (feed s ⟨k, i0, i1, i2, wd, rr, bl, la, fr, wr'⟩ ec).1 = s' := ⟨_, rfl⟩
        have ht := tied_step HT.out ⟨k, i0, i1, i2, wd, rr, bl, la, fr, wr'⟩ ec
        obtain ⟨on, hon⟩ : ∃ on, (!s'.off) = on := ⟨_, rfl⟩
        have HF := Lib.hid (show feed s ⟨k, i0, i1, i2, wd, rr, bl, la, fr, wr'⟩ ec = (s', K) by rw [← hs', ← hK, ← ht.1])
        have HT' : Hid (Tied s' (L ++ [Step.mk ⟨k, i0, i1, i2, wd, rr, bl, la, fr, wr'⟩ ec K]).reverse) := Lib.hid (by rw [← hs', ← hK]; simpa using ht.2)
        have HR := Lib.hid (show onR (L ++ [Step.mk ⟨k, i0, i1, i2, wd, rr, bl, la, fr, wr'⟩ ec K]).reverse = on by rw [← hon]; exact HT'.out.1)
        have HK := Lib.hid hK
        have HO := Lib.hid hon
        clear hK hs' ht hon
        by_cases hat : (j : Int) = at'
        · subst hat
          go_upto_region 14 with (first | (go_at_call 10; refine (copy10 s zf hs.b2).mono ?_; clear hs; rintro e w ⟨zc, rfl, hs⟩) | (go_at_call 9; refine (feed_n (e := kE 4) (wk (by decide) (by decide)) zf hs.b1).mono ?_; clear hs; rintro e w ⟨_, rfl, s4, hs⟩) | (go_at_call 9; refine (feed_n (e := kE 5) (wk (by decide) (by decide)) zf hs).mono ?_; clear hs; rintro e w ⟨_, rfl, s5, hs⟩) | ((with_reducible refine isl ?_); first | ((with_reducible refine wrap hs ?_); clear hs; intro w hs) | ((with_reducible refine wrapn hs ?_); clear hs; intro w hs) | ((with_reducible refine wrapd hs ?_); clear hs; intro w hs)))
          go_wp2_with (first | (go_at_call 11; (first | refine (kind11_o HK.out hs.b0).mono ?_ | refine (kind11_o HK.out hs.b1).mono ?_ | refine (kind11_o HK.out hs.b2).mono ?_ | refine (kind11_o HK.out hs.b3).mono ?_ | refine (kind11_o HK.out hs.b4).mono ?_); clear hs; rintro e w ⟨rfl, hs⟩) | (go_at_call 9; (first | refine (feed_t HF.out HW.out zc hs.b0).mono ?_ | refine (feed_t HF.out HW.out zc hs.b1).mono ?_ | refine (feed_t HF.out HW.out zc hs.b2).mono ?_ | refine (feed_t HF.out HW.out zc hs.b3).mono ?_ | refine (feed_t HF.out HW.out zc hs.b4).mono ?_); clear hs; rintro e w ⟨rfl, hs⟩) | (go_at_call 8; (first | refine (on_s HO.out zc hs.b0).mono ?_ | refine (on_s HO.out zc hs.b1).mono ?_ | refine (on_s HO.out zc hs.b2).mono ?_ | refine (on_s HO.out zc hs.b3).mono ?_ | refine (on_s HO.out zc hs.b4).mono ?_); clear hs; rintro e w ⟨rfl, hs⟩) | (go_at_call 12; (first | refine (on12_o HR.out hs.b0).mono ?_ | refine (on12_o HR.out hs.b1).mono ?_ | refine (on12_o HR.out hs.b2).mono ?_ | refine (on12_o HR.out hs.b3).mono ?_ | refine (on12_o HR.out hs.b4).mono ?_); clear hs; rintro e w ⟨rfl, hs⟩) | (first | ((with_reducible apply ldsw hs.b0); exact rfl; exact rfl; exact rfl; exact row29) | ((with_reducible apply ldsw hs.b1); exact rfl; exact rfl; exact rfl; exact row29) | ((with_reducible apply ldsw hs.b2); exact rfl; exact rfl; exact rfl; exact row29) | ((with_reducible apply ldsw hs.b3); exact rfl; exact rfl; exact rfl; exact row29)) | ((with_reducible refine isl ?_); first | ((with_reducible apply app hs.b1); exact rfl; exact rfl; exact rfl; exact rfl; exact slty32; exact rfl; exact rfl; decide; omega; unfold maxLen; omega; clear hs; intro g1 c1 w hs; rw [flat_snoc'] at hs) | ((with_reducible refine wrap hs ?_); clear hs; intro w hs) | ((with_reducible refine wrapn hs ?_); clear hs; intro w hs) | ((with_reducible refine wrapd hs ?_); clear hs; intro w hs)))
          go_roundw
          case rel => exact ⟨j + 1, zc, s', L ++ [Step.mk ⟨k, i0, i1, i2, wd, rr, bl, la, fr, wr'⟩ ec K], _, _, by omega, rfl, rfl, by go_num, HT', by (refine sat_from ?_ hs; repeat (first | exact Sub.refl _ | exact Sub.nil _ | refine Sub.c0 ?_ | refine Sub.c1 ?_ | refine Sub.c2 ?_ | refine Sub.c3 ?_ | refine Sub.c4 ?_ | refine Sub.c5 ?_ | refine Sub.c6 ?_ | refine Sub.c7 ?_ | refine Sub.c8 ?_ | refine Sub.c9 ?_ | refine Sub.skip ?_))⟩
          case measure => simp [intOf]; omega
        · skip
          go_wp2_with (first | (go_at_call 11; (first | refine (kind11_o HK.out hs.b0).mono ?_ | refine (kind11_o HK.out hs.b1).mono ?_ | refine (kind11_o HK.out hs.b2).mono ?_ | refine (kind11_o HK.out hs.b3).mono ?_ | refine (kind11_o HK.out hs.b4).mono ?_); clear hs; rintro e w ⟨rfl, hs⟩) | (go_at_call 9; (first | refine (feed_t HF.out HW.out zf hs.b0).mono ?_ | refine (feed_t HF.out HW.out zf hs.b1).mono ?_ | refine (feed_t HF.out HW.out zf hs.b2).mono ?_ | refine (feed_t HF.out HW.out zf hs.b3).mono ?_ | refine (feed_t HF.out HW.out zf hs.b4).mono ?_); clear hs; rintro e w ⟨rfl, hs⟩) | (go_at_call 8; (first | refine (on_s HO.out zf hs.b0).mono ?_ | refine (on_s HO.out zf hs.b1).mono ?_ | refine (on_s HO.out zf hs.b2).mono ?_ | refine (on_s HO.out zf hs.b3).mono ?_ | refine (on_s HO.out zf hs.b4).mono ?_); clear hs; rintro e w ⟨rfl, hs⟩) | (go_at_call 12; (first | refine (on12_o HR.out hs.b0).mono ?_ | refine (on12_o HR.out hs.b1).mono ?_ | refine (on12_o HR.out hs.b2).mono ?_ | refine (on12_o HR.out hs.b3).mono ?_ | refine (on12_o HR.out hs.b4).mono ?_); clear hs; rintro e w ⟨rfl, hs⟩) | (first | ((with_reducible apply ldsw hs.b0); exact rfl; exact rfl; exact rfl; exact row29) | ((with_reducible apply ldsw hs.b1); exact rfl; exact rfl; exact rfl; exact row29) | ((with_reducible apply ldsw hs.b2); exact rfl; exact rfl; exact rfl; exact row29) | ((with_reducible apply ldsw hs.b3); exact rfl; exact rfl; exact rfl; exact row29)) | ((with_reducible refine isl ?_); first | ((with_reducible apply app hs.b1); exact rfl; exact rfl; exact rfl; exact rfl; exact slty32; exact rfl; exact rfl; decide; omega; unfold maxLen; omega; clear hs; intro g1 c1 w hs; rw [flat_snoc'] at hs) | ((with_reducible refine wrap hs ?_); clear hs; intro w hs) | ((with_reducible refine wrapn hs ?_); clear hs; intro w hs) | ((with_reducible refine wrapd hs ?_); clear hs; intro w hs)))
          go_roundw
          case rel => exact ⟨j + 1, zf, s', L ++ [Step.mk ⟨k, i0, i1, i2, wd, rr, bl, la, fr, wr'⟩ ec K], _, _, by omega, rfl, rfl, by go_num, HT', by (refine sat_from ?_ hs; repeat (first | exact Sub.refl _ | exact Sub.nil _ | refine Sub.c0 ?_ | refine Sub.c1 ?_ | refine Sub.c2 ?_ | refine Sub.c3 ?_ | refine Sub.c4 ?_ | refine Sub.c5 ?_ | refine Sub.c6 ?_ | refine Sub.c7 ?_ | refine Sub.c8 ?_ | refine Sub.c9 ?_ | refine Sub.skip ?_))⟩
          case measure => simp [intOf]; omega
    · have hjn : j = n := by omega
      subst hjn
      go_wp2_with (first | (go_at_call 6; refine (known6 hs).mono ?_; clear hs; rintro e w ⟨rfl, hs⟩) | ((with_reducible refine isl ?_); first | ((with_reducible refine wrap hs ?_); clear hs; intro w hs) | ((with_reducible refine wrapn hs ?_); clear hs; intro w hs) | ((with_reducible refine wrapd hs ?_); clear hs; intro w hs)))
      go_ret
      exact ⟨rfl, hs.drop.drop⟩
end Go.Proofs.Ytppdggcefnlncaa
