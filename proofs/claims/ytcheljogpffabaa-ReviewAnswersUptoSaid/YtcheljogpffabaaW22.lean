/- Law 20: what the document answers: words. -/
import Derived.Test.YtcheljogpffabaaW21
namespace Go.Proofs.Ytcheljogpffabaa
open Go.RowKit Go.Mem Go.Words Go.Deep
variable {W w : World} {H : List HProp} {a : Option Addr} {n cp : Nat} {L : List Cm}
theorem exs_len (l : List (Nat × Nat)) : (exs l).length = l.length * 2 := by
  unfold exs
  rw [flat_len (size := 2) _ (by intro r hr; obtain ⟨p, _, rfl⟩ := List.mem_map.1 hr; rfl), List.length_map]
theorem exs_set (init : List (Nat × Nat)) (f k : Nat) (q : Nat) (hq : q = init.length) : (exs (init ++ [(f, k)])).set (q * 2 + 1) (.int .i64 ((k : Int) + 1)) = exs (init ++ [(f, k + 1)]) := by
  subst hq
  rw [← exs_snoc, ← exs_snoc, List.set_append_right _ _ (by rw [exs_len]; omega), exs_len, Nat.add_sub_cancel_left]
  rfl
theorem exs_some (init : List (Nat × Nat)) (f k : Nat) (q : Nat) (hq : q = init.length) : (exs (init ++ [(f, k)]))[q * 2 + 1]?.isSome = true := by
  subst hq
  have : init.length * 2 + 1 < (exs (init ++ [(f, k)])).length := by rw [exs_len]; simp; omega
  simp [this]
theorem ws_nil0 : WsOk [] 0 [] := by have := ws_ok []; rwa [show words [] = [] from words_end (Nat.le_refl _)] at this
attribute [local irreducible] World.setCell World.setCells World.alloc World.drew World.drewN Calls sat cel own blk old wpQuiet wpList tx
set_option maxHeartbeats 4000000 in
theorem rwords26 (hc : CS W H a n cp L) (hz : size (cl L) ≤ 600) (hs : sat W H w) :
    Calls Try.prog 66 #[.slice a n cp] w fun e w' => ∃ a' c', e = .returned (.slice a' (words ((cl L).map isB)).length c') ∧ sat W (own 87 2 (.slice a' (words ((cl L).map isB)).length c') (words ((cl L).map isB)).length (exs (words ((cl L).map isB))) :: H) w' := by
  have hn0 := hc.len.1
  have hn : n ≤ 600 := by have := len_size (cl L); rw [List.length_map] at this; omega
  have HN := Lib.hid hn0
  have HC := Lib.hid hc
  clear hc hz hn0
  go_enter Try.func66, Try.ntmps66
  go_wp2
  have hs := hs.own_nil 87 2
  go_loopw [3, 4] (fun s3 i wr => ∃ (k no : Nat) (out : List (Nat × Nat)) (a5 : Option Addr) (c5 : Nat), k ≤ n ∧ i = .int .i64 (k : Int) ∧ s3 = .slice a5 no c5 ∧ no ≤ k ∧ Hid (no = out.length) ∧ Hid (WsOk ((cl (L.take k)).map isB) 0 out) ∧ sat W (own 87 2 (.slice a5 no c5) no (exs out) :: H) wr) (fun _ i _ => ((n : Int) - intOf i).toNat)
  case atStart => exact ⟨0, 0, [], none, 0, Nat.zero_le _, rfl, rfl, Nat.le_refl _, Lib.hid rfl, Lib.hid ws_nil0, hs⟩
  case round =>
    clear hs
    obtain ⟨k, no, out, a5, c5, hk, rfl, rfl, hno, HO, HW, hs⟩ := hrel
    by_cases hlt : k < n
    · obtain ⟨m, hm, b, off, rfl, hcc⟩ := HC.out.1.getm hs.drop hlt
      have HCC := Lib.hid hcc
      have hlen : ((cl (L.take k)).map isB).length = k := by rw [List.length_map, cl_take_len (by have := HN.out; omega)]
      have HT : Hid ((cl (L.take (k + 1))).map isB = (cl (L.take k)).map isB ++ [isB m.c]) := Lib.hid (by rw [cl_take hm, List.map_append]; rfl)
      have BL := Lib.hid (fun (w : World) (Hq : List HProp) (hs : sat W Hq w) => blank18 m hs)
      generalize isB m.c = bb at HT BL
      clear hcc
      cases bb with
      | true =>
        have HW2 : Hid (WsOk ((cl (L.take (k + 1))).map isB) 0 out) := Lib.hid (by rw [HT.out]; exact ws_blank HW.out)
        clear hm hlen
        go_wp2_with (first | (go_at_call 65; refine (BL.out _ _ hs).mono ?_; clear hs; rintro e w ⟨rfl, hs⟩) | ((with_reducible refine isl ?_); first | ((with_reducible apply ldsc (cs := cmV m)); exact rfl; exact rfl; exact rfl; exact HCC.out _ (hs.dropN 1); exact row36) | ((with_reducible refine wrap hs ?_); clear hs; intro w hs) | ((with_reducible refine wrapn hs ?_); clear hs; intro w hs) | ((with_reducible refine wrapd hs ?_); clear hs; intro w hs)))
        go_roundw
        case rel => exact ⟨k + 1, no, out, _, _, hlt, by go_num, rfl, by omega, HO, HW2, hs⟩
        case measure => simp [intOf]; omega
      | false =>
        have hnew : (∀ j, k = j + 1 → ((cl (L.take k)).map isB)[j]? ≠ some false) → WsOk ((cl (L.take (k + 1))).map isB) 0 (out ++ [(k, k + 1)]) := fun h => by rw [HT.out]; exact ws_new HW.out hlen h
        cases k with
        | zero =>
          have HW2 := Lib.hid (hnew (fun j h => by omega))
          clear hm hlen hnew
          go_wp2_with (first | (go_at_call 65; refine (BL.out _ _ hs).mono ?_; clear hs; rintro e w ⟨rfl, hs⟩) | ((with_reducible refine isl ?_); first | ((with_reducible apply ldsc (cs := cmV m)); exact rfl; exact rfl; exact rfl; exact HCC.out _ (hs.dropN 1); exact row36) | ((with_reducible apply app hs.b1); exact rfl; exact rfl; exact rfl; exact rfl; exact slty37; exact rfl; exact rfl; decide; omega; unfold maxLen; omega; clear hs; intro g5 c6 w hs) | ((with_reducible refine wrap hs ?_); clear hs; intro w hs) | ((with_reducible refine wrapn hs ?_); clear hs; intro w hs) | ((with_reducible refine wrapd hs ?_); clear hs; intro w hs)))
          go_roundw
          case rel => exact ⟨1, no + 1, out ++ [(0, 1)], _, _, hlt, by go_num, rfl, by omega, Lib.hid (by rw [List.length_append, HO.out]; rfl), HW2, by rw [← exs_snoc]; exact hs⟩
          case measure => simp [intOf]; omega
        | succ k =>
          obtain ⟨mp, hmp, b2, off2, e2, hcp⟩ := HC.out.1.getm hs.drop (show k < n by omega)
          cases e2
          have HCP := Lib.hid hcp
          have hpb : ((cl (L.take (k + 1))).map isB)[k]? = some (isB mp.c) := by
            rw [List.getElem?_map, List.getElem?_map, List.getElem?_take, if_pos (Nat.lt_succ_self k), hmp]; rfl
          have BLp := Lib.hid (fun (w : World) (Hq : List HProp) (hs : sat W Hq w) => blank18 mp hs)
          generalize isB mp.c = bp at hpb BLp
          have hk1 : (k : Int) < (n : Int) := by omega
          have hk2 : (k : Int) + 1 < (n : Int) := by omega
          clear hcp hm hmp
          cases bp with
          | true =>
            have HW2 := Lib.hid (hnew (fun j h => by rw [show j = k by omega, hpb]; simp))
            clear hlen hnew hpb
            go_wp2_with (first | (first | (go_at_call 65; refine (BL.out _ _ hs).mono ?_; clear hs; rintro e w ⟨rfl, hs⟩) | (go_at_call 65; refine (BLp.out _ _ hs).mono ?_; clear hs; rintro e w ⟨rfl, hs⟩)) | ((with_reducible refine isl ?_); first | ((with_reducible apply ldsc (cs := cmV m)); exact rfl; exact rfl; exact rfl; exact HCC.out _ (hs.dropN 1); exact row36) | ((with_reducible apply ldsc (cs := cmV mp)); exact rfl; exact rfl; exact rfl; exact HCP.out _ (hs.dropN 1); exact row36) | ((with_reducible apply app hs.b1); exact rfl; exact rfl; exact rfl; exact rfl; exact slty37; exact rfl; exact rfl; decide; omega; unfold maxLen; omega; clear hs; intro g5 c6 w hs) | ((with_reducible refine wrap hs ?_); clear hs; intro w hs) | ((with_reducible refine wrapn hs ?_); clear hs; intro w hs) | ((with_reducible refine wrapd hs ?_); clear hs; intro w hs)))
            go_roundw
            case rel => exact ⟨k + 1 + 1, no + 1, out ++ [(k + 1, k + 1 + 1)], _, _, hlt, by go_num, rfl, by omega, Lib.hid (by rw [List.length_append, HO.out]; rfl), HW2, by rw [← exs_snoc]; exact hs⟩
            case measure => simp [intOf]; omega
          | false =>
            obtain ⟨init, f, rfl⟩ := ws_last HW.out hlen hpb
            obtain ⟨q, hq⟩ : ∃ q, q = init.length := ⟨_, rfl⟩
            obtain rfl : no = q + 1 := by rw [HO.out, List.length_append, hq]; rfl
            have HQ := Lib.hid hq
            have HW2 : Hid (WsOk ((cl (L.take (k + 1 + 1))).map isB) 0 (init ++ [(f, k + 1 + 1)])) := Lib.hid (by rw [HT.out]; exact ws_on HW.out hlen)
            have HST : Hid ((exs (init ++ [(f, k + 1)])).set (q * 2 + 1) (.int .i64 ((k : Int) + 1 + 1)) = exs (init ++ [(f, k + 1 + 1)])) := Lib.hid (exs_set init f (k + 1) q hq)
            have HSM := Lib.hid (exs_some init f (k + 1) q hq)
            obtain ⟨g, c6, e⟩ := hs.own_some (by omega)
            cases e
            clear hlen hnew hpb hq
            go_wp2_with (first | (first | (go_at_call 65; refine (BL.out _ _ hs).mono ?_; clear hs; rintro e w ⟨rfl, hs⟩) | (go_at_call 65; refine (BLp.out _ _ hs).mono ?_; clear hs; rintro e w ⟨rfl, hs⟩)) | ((with_reducible refine isl ?_); first | ((with_reducible apply ldsc (cs := cmV m)); exact rfl; exact rfl; exact rfl; exact HCC.out _ (hs.dropN 1); exact row36) | ((with_reducible apply ldsc (cs := cmV mp)); exact rfl; exact rfl; exact rfl; exact HCP.out _ (hs.dropN 1); exact row36) | ((with_reducible apply sto hs); exact rfl; exact rfl; exact rfl; exact rfl; exact rfl; exact HSM.out; kernel_rfl; exact rfl; clear hs; intro w hs; rw [HST.out] at hs) | ((with_reducible refine wrap hs ?_); clear hs; intro w hs) | ((with_reducible refine wrapn hs ?_); clear hs; intro w hs) | ((with_reducible refine wrapd hs ?_); clear hs; intro w hs)))
            go_roundw
            case rel => exact ⟨k + 1 + 1, q + 1, init ++ [(f, k + 1 + 1)], _, _, hlt, by go_num, rfl, by omega, Lib.hid (by rw [List.length_append, HQ.out]; rfl), HW2, hs⟩
            case measure => simp [intOf]; omega
    · obtain rfl : k = n := by omega
      have HE : Hid (words ((cl L).map isB) = out) := Lib.hid (by have := HW.out; rw [List.take_of_length_le (by have := HN.out; omega)] at this; exact (words_eq this).symm)
      go_wp2
      go_ret
      rw [HE.out, ← HO.out]
      exact ⟨_, _, rfl, hs⟩
end Go.Proofs.Ytcheljogpffabaa
