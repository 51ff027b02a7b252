/- Law 20: what the document answers: its functions. -/
import Derived.Test.YtcheljogpffabaaW18
import Derived.Test.YtcheljogpffabaaW19
import Derived.Test.YtcheljogpffabaaW20
namespace Go.Proofs.Ytcheljogpffabaa
open Go.RowKit Go.Mem Go.Words Go.Deep
variable {W w : World} {H : List HProp} {a : Option Addr} {n cp : Nat} {L : List Cm}
theorem i32_ok {l : List Int} : ∀ u ∈ i32s l, u.oneCell' = true := by
  intro u hu
  obtain ⟨x, _, rfl⟩ := List.mem_map.1 hu
  rfl
theorem rpart_le (l : List Cl) (a b : Int) : (rpart l a b).length ≤ size l := by
  rw [← part_run, List.length_map]
  refine Nat.le_trans (List.length_filter_le _ _) (Nat.le_trans ?_ (ok_run l).hz)
  rw [List.length_zip]; exact Nat.min_le_right _ _
theorem cl_take_len {L : List Cm} {k : Nat} (h : k ≤ L.length) : (cl (L.take k)).length = k := by rw [List.length_map, List.length_take]; omega
theorem cl_take {L : List Cm} {k : Nat} {m : Cm} (h : L[k]? = some m) : cl (L.take (k + 1)) = cl (L.take k) ++ [m.c] := by
  have hk := (List.getElem?_eq_some_iff.1 h).1
  rw [List.take_succ_eq_append_getElem hk, cl, List.map_append, List.map_cons, List.map_nil, (List.getElem?_eq_some_iff.1 h).2]
theorem rpart_take {L : List Cm} {k : Nat} {m : Cm} (h : L[k]? = some m) (x y : Int) : rpart (cl (L.take (k + 1))) x y = rpart (cl (L.take k)) x y ++ shows x y m.c k := by
  have hk := (List.getElem?_eq_some_iff.1 h).1
  rw [cl_take h, rpart_snoc, cl_take_len (Nat.le_of_lt hk)]
attribute [local irreducible] World.setCell World.setCells World.alloc World.drew World.drewN Calls sat cel own blk old wpQuiet wpList tx
set_option maxHeartbeats 2000000 in
theorem rpart23 (hc : CS W H a n cp L) (hz : size (cl L) ≤ 600) (x y : Int) (hs : sat W H w) :
    Calls Try.prog 46 #[.slice a n cp, .int .i64 x, .int .i64 y] w fun e w' => ∃ a' c', e = .returned (.slice a' (rpart (cl L) x y).length c') ∧ sat W (own 21 1 (.slice a' (rpart (cl L) x y).length c') (rpart (cl L) x y).length (i32s (rpart (cl L) x y)) :: H) w' := by
  have hn0 := hc.len.1
  have hn : n ≤ 600 := by have := len_size (cl L); rw [List.length_map] at this; omega
  have HN := Lib.hid hn0
  have HC := Lib.hid hc
  have HZ := Lib.hid hz
  clear hc hz hn0
  go_enter Try.func46, Try.ntmps46
  go_wp2
  have hs := hs.own_nil 21 1
  go_loopw [7, 8] (fun s7 i wr => ∃ (k : Nat) (acc : List Int) (a5 : Option Addr) (c5 : Nat), k ≤ n ∧ i = .int .i64 (k : Int) ∧ s7 = .slice a5 acc.length c5 ∧ acc.length ≤ 600 ∧ Hid (acc = rpart (cl (L.take k)) x y) ∧ sat W (own 21 1 (.slice a5 acc.length c5) acc.length (i32s acc) :: H) wr) (fun _ i _ => ((n : Int) - intOf i).toNat)
  case atStart => exact ⟨0, [], none, 0, Nat.zero_le _, rfl, rfl, Nat.zero_le _, Lib.hid rfl, hs⟩
  case round =>
    clear hs
    obtain ⟨k, acc, a5, c5, hk, rfl, rfl, hal, HA, hs⟩ := hrel
    by_cases hlt : k < n
    · obtain ⟨⟨mc, ca, cc0, fg, bg, fl⟩, hm, b, off, rfl, hcc⟩ := HC.out.1.getm hs.drop hlt
      have HCC := Lib.hid hcc
      have HM : Hid (∀ w', sat W H w' → Reads w' (.slice ca mc.comb.length cc0) (i32s mc.comb)) := Lib.hid (HC.out.2 _ (List.mem_of_getElem? hm))
      have HT : Hid (rpart (cl (L.take (k + 1))) x y = rpart (cl (L.take k)) x y ++ shows x y mc k) := Lib.hid (rpart_take hm x y)
      have rfl_len : (i32s mc.comb).length = mc.comb.length := by simp
      have hb : acc.length + 1 + mc.comb.length ≤ 1200 := by
        have h1 : size (cl (L.take k)) + (1 + mc.comb.length) ≤ size (cl L) := size_take hm
        have := HZ.out
        omega
      have hle : (rpart (cl (L.take (k + 1))) x y).length ≤ 600 := by
        have h1 := rpart_le (cl (L.take (k + 1))) x y
        have h2 := size_take_eq hm
        have h3 := size_take hm
        have := HZ.out
        omega
      have RL := Lib.hid rfl_len
      clear hcc hm rfl_len
      have no : Hid (¬ (x ≤ (k : Int) ∧ (k : Int) < y ∧ mc.wide ≠ 2) → acc = rpart (cl (L.take (k + 1))) x y) := Lib.hid fun h => by
        rw [HT.out, ← HA.out]; unfold shows; rw [if_neg h, List.append_nil]
      by_cases h1 : x ≤ (k : Int)
      · by_cases h2 : (k : Int) < y
        · by_cases h3 : mc.wide = 2
          · have HA2 : Hid (acc = rpart (cl (L.take (k + 1))) x y) := Lib.hid (no.out (by omega))
            have g3 : (mc.wide != 2) = false := by rw [h3]; rfl
            clear HA no
            go_wp2_with (first | (apply ldc; exact rfl; exact rfl; exact rfl; exact HCC.out _ (hs.dropN 1) 2 _ rfl; kernel_rfl) | ((with_reducible refine isl ?_); first | ((with_reducible refine wrap hs ?_); clear hs; intro w hs) | ((with_reducible refine wrapn hs ?_); clear hs; intro w hs) | ((with_reducible refine wrapd hs ?_); clear hs; intro w hs)))
            go_roundw
            case rel => exact ⟨k + 1, acc, _, _, hlt, by go_num, rfl, hal, HA2, hs⟩
            case measure => simp [intOf]; omega
          · have HA2 : Hid (acc ++ [mc.r] ++ mc.comb = rpart (cl (L.take (k + 1))) x y) := Lib.hid (by rw [HT.out, ← HA.out]; unfold shows; rw [if_pos ⟨h1, h2, h3⟩]; simp)
            have g3 : (mc.wide != 2) = true := by simpa using h3
            have hl2 : (acc ++ [mc.r] ++ mc.comb).length ≤ 600 := by rw [HA2.out]; exact hle
            clear HA no
            go_wp2_with (first | (apply ldc; exact rfl; exact rfl; exact rfl; exact HCC.out _ (hs.dropN 1) 2 _ rfl; kernel_rfl) | (apply ldc; exact rfl; exact rfl; exact rfl; exact HCC.out _ (hs.dropN 1) 0 _ rfl; kernel_rfl) | (apply ldc; exact rfl; exact rfl; exact rfl; exact HCC.out _ (hs.dropN 1) 1 _ rfl; kernel_rfl) | ((with_reducible refine isl ?_); first | ((with_reducible apply apprm (m := mc.comb.length) hs); exact rfl; exact rfl; exact rfl; exact rfl; exact slty27; exact HM.out _ hs.drop; exact i32_ok; exact RL.out; omega; (unfold maxLen; omega); clear hs; intro a6 c6 w hs) | ((with_reducible apply app hs.b1); exact rfl; exact rfl; exact rfl; exact rfl; exact slty27; exact rfl; exact rfl; decide; omega; unfold maxLen; omega; clear hs; intro g5 c7 w hs) | ((with_reducible refine wrap hs ?_); clear hs; intro w hs) | ((with_reducible refine wrapn hs ?_); clear hs; intro w hs) | ((with_reducible refine wrapd hs ?_); clear hs; intro w hs)))
            go_roundw
            case rel => exact ⟨k + 1, acc ++ [mc.r] ++ mc.comb, _, _, hlt, by go_num, by rw [List.length_append, List.length_append, List.length_singleton], hl2, HA2, by simp only [List.length_append, List.length_singleton, List.map_append, List.map_cons, List.map_nil]; exact hs⟩
            case measure => simp [intOf]; omega
        · have HA2 : Hid (acc = rpart (cl (L.take (k + 1))) x y) := Lib.hid (no.out (by omega))
          clear HA no
          go_wp2
          go_roundw
          case rel => exact ⟨k + 1, acc, _, _, hlt, by go_num, rfl, hal, HA2, hs⟩
          case measure => simp [intOf]; omega
      · have HA2 : Hid (acc = rpart (cl (L.take (k + 1))) x y) := Lib.hid (no.out (by omega))
        clear HA no
        go_wp2
        go_roundw
        case rel => exact ⟨k + 1, acc, _, _, hlt, by go_num, rfl, hal, HA2, hs⟩
        case measure => simp [intOf]; omega
    · obtain rfl : k = n := by omega
      have HE : Hid (rpart (cl L) x y = acc) := Lib.hid (by rw [HA.out, List.take_of_length_le (by have := HN.out; omega)])
      go_wp2
      go_ret
      rw [HE.out]
      exact ⟨_, _, rfl, hs⟩
theorem rpart_t {x y : Int} {l : List Int} (hc : CS W H a n cp L) (hz : size (cl L) ≤ 600) (e : rpart (cl L) x y = l) (hs : sat W H w) :
    Calls Try.prog 46 #[.slice a n cp, .int .i64 x, .int .i64 y] w fun e w' => ∃ a' c', e = .returned (.slice a' l.length c') ∧ sat W (own 21 1 (.slice a' l.length c') l.length (i32s l) :: H) w' := e ▸ rpart23 hc hz x y hs
theorem rlen_t {x y : Int} {k : Nat} (hc : CS W H a n cp L) (hz : size (cl L) ≤ 600) (e : (rpart (cl L) x y).length = k) (hs : sat W H w) :
    Calls Try.prog 46 #[.slice a n cp, .int .i64 x, .int .i64 y] w fun e w' => ∃ a' c', e = .returned (.slice a' k c') ∧ sat W H w' := (rpart23 hc hz x y hs).mono fun _ _ ⟨a', c', h1, h2⟩ => ⟨a', c', e ▸ h1, h2.drop⟩
set_option maxHeartbeats 1000000 in
theorem rtrim24 {l : List Int} (hc : CS W H a n cp L) (hz : size (cl L) ≤ 600) (e : rpart (cl L) 0 (trim ((cl L).map isB)) = l) (hs : sat W H w) :
    Calls Try.prog 44 #[.slice a n cp] w fun e w' => ∃ a' c', e = .returned (.slice a' l.length c') ∧ sat W (own 21 1 (.slice a' l.length c') l.length (i32s l) :: H) w' := by
  have hn0 := hc.len.1
  have hn : n ≤ 600 := by have := len_size (cl L); rw [List.length_map] at this; omega
  have HN := Lib.hid hn0
  have HC := Lib.hid hc
  have HZ := Lib.hid hz
  have HL := Lib.hid e
  clear hc hz hn0 e
  go_enter Try.func44, Try.ntmps44
  go_wp2
  go_loopw [3, 4] (fun s3 i wr => ∃ k : Nat, k ≤ n ∧ i = .int .i64 (k : Int) ∧ s3 = .int .i64 (trim ((cl (L.take k)).map isB) : Nat) ∧ sat W H wr) (fun _ i _ => ((n : Int) - intOf i).toNat)
  case atStart => exact ⟨0, Nat.zero_le _, rfl, rfl, hs⟩
  case round =>
    clear hs
    obtain ⟨k, hk, rfl, rfl, hs⟩ := hrel
    by_cases hlt : k < n
    · obtain ⟨m, hm, b, off, rfl, hcc⟩ := HC.out.1.getm hs hlt
      have HCC := Lib.hid hcc
      have HT : Hid (trim ((cl (L.take (k + 1))).map isB) = if isB m.c = true then trim ((cl (L.take k)).map isB) else k + 1) := Lib.hid (by
        rw [cl_take hm, List.map_append, List.map_cons, List.map_nil, trim_snoc, List.length_map, cl_take_len (by have := HN.out; omega)])
      have BL := Lib.hid (fun (w : World) (hs : sat W H w) => blank18 m hs)
      generalize isB m.c = bb at HT BL
      generalize trim ((cl (L.take k)).map isB) = tk at HT
      clear hcc hm
      cases bb with
      | true =>
        rw [if_pos rfl] at HT
        go_wp2_with (first | (go_at_call 65; refine (BL.out _ hs).mono ?_; clear hs; rintro e w ⟨rfl, hs⟩) | ((with_reducible refine isl ?_); first | ((with_reducible apply ldsc (cs := cmV m)); exact rfl; exact rfl; exact rfl; exact HCC.out _ (hs.dropN 0); exact row36) | ((with_reducible refine wrap hs ?_); clear hs; intro w hs) | ((with_reducible refine wrapn hs ?_); clear hs; intro w hs) | ((with_reducible refine wrapd hs ?_); clear hs; intro w hs)))
        go_roundw
        case rel => exact ⟨k + 1, hlt, by go_num, by rw [HT.out], hs⟩
        case measure => simp [intOf]; omega
      | false =>
        rw [if_neg (by simp)] at HT
        go_wp2_with (first | (go_at_call 65; refine (BL.out _ hs).mono ?_; clear hs; rintro e w ⟨rfl, hs⟩) | ((with_reducible refine isl ?_); first | ((with_reducible apply ldsc (cs := cmV m)); exact rfl; exact rfl; exact rfl; exact HCC.out _ (hs.dropN 0); exact row36) | ((with_reducible refine wrap hs ?_); clear hs; intro w hs) | ((with_reducible refine wrapn hs ?_); clear hs; intro w hs) | ((with_reducible refine wrapd hs ?_); clear hs; intro w hs)))
        go_roundw
        case rel => exact ⟨k + 1, hlt, by go_num, by rw [HT.out]; go_num, hs⟩
        case measure => simp [intOf]; omega
    · obtain rfl : k = n := by omega
      have HE : Hid (rpart (cl L) 0 (trim ((cl (L.take k)).map isB)) = l) := Lib.hid (by rw [← HL.out, List.take_of_length_le (by have := HN.out; omega)])
      generalize trim ((cl (L.take k)).map isB) = tk at HE
      go_wp2_with (first | (go_at_call 46; refine (rpart_t HC.out HZ.out HE.out hs).mono ?_; clear hs; rintro e w ⟨a6, c6, rfl, hs⟩) | ((with_reducible refine isl ?_); first | ((with_reducible refine wrap hs ?_); clear hs; intro w hs) | ((with_reducible refine wrapn hs ?_); clear hs; intro w hs) | ((with_reducible refine wrapd hs ?_); clear hs; intro w hs)))
      go_ret
      exact ⟨_, _, rfl, hs⟩
end Go.Proofs.Ytcheljogpffabaa
