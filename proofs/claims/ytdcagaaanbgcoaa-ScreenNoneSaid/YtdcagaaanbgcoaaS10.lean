/- Law 9: made, ids, alike. -/
import Derived.Test.YtdcagaaanbgcoaaS9
namespace Go.Proofs.Ytdcagaaanbgcoaa
open Go.RowKit Go.Mem Go.Cells Go.Lines
variable {W w : World} {H : List HProp}
theorem slty35 : SlTy Try.prog 35 3 1 8 := ⟨Try.underlying35, by obtain ⟨i0, hi, hz0, hz1, hz2⟩ := info_parts (show (Try.prog.info? 3).map (fun i => (i.zero, i.size, i.bytes)) = some (some (.int .i64 0), 1, 8) by kernel_rfl); exact ⟨i0, _, hi, hz0, hz1, hz2, rfl⟩, by decide⟩
theorem results_tmp3' {P : Program} {fn : Func} {tmps : Array Value} {w : World} {a b c : Tmp} (h : fn.results = #[.tmp a, .tmp b, .tmp c]) : (results fn tmps).run P w = .ok (.tuple #[tmps.getD a undef, tmps.getD b undef, tmps.getD c undef]) w := by
  unfold results
  simp [h]
def idv (L : List LN) : List Int := L.map (·.1)
theorem idv_len (L : List LN) : (idv L).length = L.length := List.length_map _
theorem idv_snoc {L : List LN} {i : Nat} {x : LN} (h : L[i]? = some x) : (idv (L.take i)).map (Value.int .i64) ++ [.int .i64 x.1] = (idv (L.take (i + 1))).map (Value.int .i64) := by
  rw [List.take_add_one, h]
  simp [idv]
attribute [local irreducible] rowTy oneTy World.setCell World.setCells World.alloc World.drew World.drewN Calls sat cel own blk old wpQuiet wpList cmb cmb1 rwP cls rws wi wh fst_ World.rangeAt lrw lnP stP lsP dsP lvs frL downL upL pushs
theorem smade8 {rows cols most : Nat} {keeps : Bool} (r0 : 1 ≤ rows) (r1 : rows ≤ 512) (c0 : 1 ≤ cols) (c1 : cols ≤ 512) (hm : most ≤ 10000) (hs : sat W H w) :
    Calls Try.prog 8 #[.int .i64 (rows : Int), .int .i64 (cols : Int), .int .i64 (most : Int), .bool keeps] w fun e w' => ∃ b s, e = .returned (.tuple #[.pointer (some ⟨b, 0, none⟩), .pointer (some ⟨s, 0, none⟩), .bool true]) ∧ sat W (scP b s ⟨keeps, cols, 0, (rows : Int) - 1, frL rows 1 (frC cols At.z)⟩ :: stP s most (1 + rows) [] :: H) w' := by
  go_enter Try.func8, Try.ntmps8
  go_wp2_with (first | (go_at_call 36; refine (new6 hm (by (apply sk_from (hs := hs); repeat constructor))).mono ?_; clear hs; rintro e w ⟨s, rfl, hs⟩) | (go_at_call 18; refine (snew18 (nx := 1) r0 r1 c0 c1 (by omega) (by omega) (by (apply sk_from (hs := hs); repeat constructor))).mono ?_; clear hs; rintro e w ⟨b, rfl, hs⟩) | ((with_reducible refine isl ?_); first | ((with_reducible refine wrap hs ?_); clear hs; intro w hs) | ((with_reducible refine wrapn hs ?_); clear hs; intro w hs) | ((with_reducible refine wrapd hs ?_); clear hs; intro w hs)))
  refine end_ret rfl (results_tmp3' rfl) ⟨b, s, rfl, hs⟩
theorem sids11 {b s n p g : Nat} {keeps : Bool} {cols : Nat} {top bot : Int} {ps : List PL} {L : List LN} (h0 : 0 < n) (h5 : n ≤ 512) (HO : Hid (ps.map PL.ln = L ∧ ps.length = n)) (hs : sat W (cel b 46 [.pointer (some ⟨s, 0, none⟩), .bool keeps, .int .i64 cols, .slice (some ⟨g, 0, none⟩) n p, .int .i64 top, .int .i64 bot] :: own 81 2 (.slice (some ⟨g, 0, none⟩) n p) n (lvs ps).flatten :: H) w) :
    Calls Try.prog 11 #[.pointer (some ⟨b, 0, none⟩)] w fun e w' => ∃ a c, e = .returned (.slice a n c) ∧ sat W (own 3 1 (.slice a n c) n ((idv L).map (Value.int .i64)) :: cel b 46 [.pointer (some ⟨s, 0, none⟩), .bool keeps, .int .i64 cols, .slice (some ⟨g, 0, none⟩) n p, .int .i64 top, .int .i64 bot] :: own 81 2 (.slice (some ⟨g, 0, none⟩) n p) n (lvs ps).flatten :: H) w' := by
  have H5 := Lib.hid h5
  have hn63 : (n : Int) ≤ 1000 := by omega
  clear h5
  go_enter Try.func11, Try.ntmps11
  go_wp2_with (first | (go_at_call 20; refine (srows20 h0 (by (apply sk_from (hs := hs); repeat constructor))).mono ?_; clear hs; rintro e w ⟨rfl, hs⟩) | ((with_reducible refine isl ?_); first | ((with_reducible refine wrap hs ?_); clear hs; intro w hs) | ((with_reducible refine wrapn hs ?_); clear hs; intro w hs) | ((with_reducible refine wrapd hs ?_); clear hs; intro w hs)))
  go_loopw [7, 3] (fun i v wx => ∃ (i0 : Nat) (a : Option Addr) (c : Nat), i0 ≤ n ∧ i = .int .i64 (i0 : Int) ∧ v = .slice a i0 c ∧ sat W (own 3 1 (.slice a i0 c) i0 ((idv (L.take i0)).map (Value.int .i64)) :: cel b 46 [.pointer (some ⟨s, 0, none⟩), .bool keeps, .int .i64 cols, .slice (some ⟨g, 0, none⟩) n p, .int .i64 top, .int .i64 bot] :: own 81 2 (.slice (some ⟨g, 0, none⟩) n p) n (lvs ps).flatten :: H) wx) (fun i _ _ => ((n : Int) - intOf i).toNat)
  case atStart => exact ⟨0, none, 0, Nat.zero_le _, rfl, rfl, hs.own_nil 3 1⟩
  case round =>
    clear hs
    obtain ⟨i0, a, c, hi, rfl, rfl, hs⟩ := hrel
    by_cases hin : i0 < n
    · have hin2 : (i0 : Int) < (n : Int) := by omega
      obtain ⟨⟨xid, xb, xl⟩, hx⟩ : ∃ x, ps[i0]? = some x := ⟨_, List.getElem?_eq_getElem (by rw [HO.out.2]; exact hin)⟩
      have hx2 : L[i0]? = some (xid, xl) := by rw [← HO.out.1, List.getElem?_map, hx]; rfl
      have HS := Lib.hid (idv_snoc hx2)
      have HX := Lib.hid hx
      clear hx hx2
      go_wp2_with (first | (go_at_call 22; refine (sid22 HX.out hin (by (apply sk_from (hs := hs); repeat constructor))).mono ?_; clear hs; rintro e w ⟨rfl, hs⟩; replace hs : sat W (own 3 1 (.slice a i0 c) i0 ((idv (L.take i0)).map (Value.int .i64)) :: cel b 46 [.pointer (some ⟨s, 0, none⟩), .bool keeps, .int .i64 cols, .slice (some ⟨g, 0, none⟩) n p, .int .i64 top, .int .i64 bot] :: own 81 2 (.slice (some ⟨g, 0, none⟩) n p) n (lvs ps).flatten :: H) w := by refine sb_from ?_ hs; repeat constructor) | (first | ((with_reducible apply app hs.b0); exact rfl; exact rfl; exact rfl; exact rfl; exact slty35; exact rfl; exact rfl; decide; omega; (unfold maxLen; omega); clear hs; intro a9 c9 w hs; rw [HS.out] at hs) | ((with_reducible apply app hs.b1); exact rfl; exact rfl; exact rfl; exact rfl; exact slty35; exact rfl; exact rfl; decide; omega; (unfold maxLen; omega); clear hs; intro a9 c9 w hs; rw [HS.out] at hs) | ((with_reducible apply app hs.b2); exact rfl; exact rfl; exact rfl; exact rfl; exact slty35; exact rfl; exact rfl; decide; omega; (unfold maxLen; omega); clear hs; intro a9 c9 w hs; rw [HS.out] at hs) | ((with_reducible apply app hs.b3); exact rfl; exact rfl; exact rfl; exact rfl; exact slty35; exact rfl; exact rfl; decide; omega; (unfold maxLen; omega); clear hs; intro a9 c9 w hs; rw [HS.out] at hs) | ((with_reducible apply app hs.b4); exact rfl; exact rfl; exact rfl; exact rfl; exact slty35; exact rfl; exact rfl; decide; omega; (unfold maxLen; omega); clear hs; intro a9 c9 w hs; rw [HS.out] at hs)) | ((with_reducible refine isl ?_); first | ((with_reducible refine wrap hs ?_); clear hs; intro w hs) | ((with_reducible refine wrapn hs ?_); clear hs; intro w hs) | ((with_reducible refine wrapd hs ?_); clear hs; intro w hs)))
      go_roundw
      case rel => exact ⟨i0 + 1, _, _, by omega, by go_num, rfl, by refine sb_from ?_ hs; repeat constructor⟩
      case measure => simp [intOf]; omega
    · have hge : ¬ (i0 : Int) < (n : Int) := by omega
      obtain rfl : i0 = n := by omega
      have HE : Hid (L.take i0 = L) := Lib.hid (List.take_of_length_le (by rw [← HO.out.1, List.length_map, HO.out.2]; exact Nat.le_refl _))
      rw [HE.out] at hs
      clear hin
      go_wp2_with fail
      go_ret
      exact ⟨a, c, rfl, hs⟩
theorem salike14 {a1 a2 : Option Addr} {n1 n2 c1 c2 : Nat} {l1 l2 : List Int} (h5 : n1 ≤ 1000) (R1 : SK .i64 W H a1 n1 c1 l1) (R2 : SK .i64 W H a2 n2 c2 l2) (hs : sat W H w) :
    Calls Try.prog 14 #[.slice a1 n1 c1, .slice a2 n2 c2] w fun e w' => e = .returned (.bool (decide (l1 = l2))) ∧ sat W H w' := by
  have hl1 := R1.1
  have hl2 := R2.1
  by_cases hn : n1 = n2
  · subst hn
    have HR1 := Lib.hid R1
    have HR2 := Lib.hid R2
    have HL := Lib.hid (And.intro hl1 hl2)
    have hn63 : (n1 : Int) ≤ 1000 := by omega
    clear R1 R2 hl1 hl2 h5
    go_enter Try.func14, Try.ntmps14
    go_wp2_with fail
    go_loopw [13] (fun i wx => ∃ i0 : Nat, i0 ≤ n1 ∧ i = .int .i64 (i0 : Int) ∧ Hid (l1.take i0 = l2.take i0) ∧ sat W H wx) (fun i _ => ((n1 : Int) - intOf i).toNat)
    case atStart => exact ⟨0, Nat.zero_le _, rfl, Lib.hid rfl, hs⟩
    case round =>
      clear hs
      obtain ⟨i0, hi, rfl, HT, hs⟩ := hrel
      by_cases hin : i0 < n1
      · have hin2 : (i0 : Int) < (n1 : Int) := by omega
        obtain ⟨b1, o1, rfl, q1⟩ := HR1.out.get hs hin
        obtain ⟨b2, o2, rfl, q2⟩ := HR2.out.get hs hin
        obtain ⟨x1, hx1⟩ : ∃ x, l1.getD i0 0 = x := ⟨_, rfl⟩
        obtain ⟨x2, hx2⟩ : ∃ x, l2.getD i0 0 = x := ⟨_, rfl⟩
        rw [hx1] at q1
        rw [hx2] at q2
        have HQ1 := Lib.hid q1
        have HQ2 := Lib.hid q2
        have hg1 : l1[i0]? = some x1 := by
          have h1 : i0 < l1.length := by rw [← HL.out.1]; exact hin
          rw [← hx1, List.getD_eq_getElem?_getD, List.getElem?_eq_getElem h1]; rfl
        have hg2 : l2[i0]? = some x2 := by
          have h1 : i0 < l2.length := by rw [← HL.out.2]; exact hin
          rw [← hx2, List.getD_eq_getElem?_getD, List.getElem?_eq_getElem h1]; rfl
        have HG := Lib.hid (And.intro hg1 hg2)
        clear q1 q2 hx1 hx2 hg1 hg2
        by_cases hx : x1 = x2
        · subst hx
          go_upto_region 6 with fail
          ((try simp only [Act.put, List.setIfInBounds_toArray, List.set_cons_succ, List.set_cons_zero]); refine region_sat hs (by kernel_rfl) (by kernel_rfl) ?_; intro X f hne hf hcl; (repeat ((first | (apply ldcq; exact rfl; exact rfl; exact rfl; exact fun y => HQ1.out _ (hf y); exact one3) | (apply ldcq; exact rfl; exact rfl; exact rfl; exact fun y => HQ2.out _ (hf y); exact one3) | go_big_quiet_step (fail)); (try simp only [Act.put, List.setIfInBounds_toArray, List.set_cons_succ, List.set_cons_zero]))); refine wpQuiet_nil ?_; clear hcl hf hne hs f X; intro w hs)
          go_wp2_with fail
          go_roundw
          case rel => exact ⟨i0 + 1, by omega, by go_num, Lib.hid (by rw [List.take_add_one, List.take_add_one, HT.out, HG.out.1, HG.out.2]), hs⟩
          case measure => simp [intOf]; omega
        · have HD : Hid (decide (l1 = l2) = false) := Lib.hid (decide_eq_false fun e => by
            have h1 := HG.out.1
            rw [e, HG.out.2] at h1
            exact hx (Option.some.inj h1).symm)
          have hx' : (x1 == x2) = false := beq_eq_false_iff_ne.2 hx
          go_upto_region 6 with fail
          ((try simp only [Act.put, List.setIfInBounds_toArray, List.set_cons_succ, List.set_cons_zero]); refine region_sat hs (by kernel_rfl) (by kernel_rfl) ?_; intro X f hne hf hcl; (repeat ((first | (apply ldcq; exact rfl; exact rfl; exact rfl; exact fun y => HQ1.out _ (hf y); exact one3) | (apply ldcq; exact rfl; exact rfl; exact rfl; exact fun y => HQ2.out _ (hf y); exact one3) | go_big_quiet_step (fail)); (try simp only [Act.put, List.setIfInBounds_toArray, List.set_cons_succ, List.set_cons_zero]))); refine wpQuiet_nil ?_; clear hcl hf hne hs f X; intro w hs)
          go_wp2_with fail
          go_ret
          rw [HD.out]
          exact ⟨rfl, hs⟩
      · have hge : ¬ (i0 : Int) < (n1 : Int) := by omega
        have HD : Hid (decide (l1 = l2) = true) := Lib.hid (decide_eq_true (by
          have h1 := HT.out
          rw [List.take_of_length_le (by rw [← HL.out.1]; omega), List.take_of_length_le (by rw [← HL.out.2]; omega)] at h1
          exact h1))
        clear hin
        go_wp2_with fail
        go_ret
        rw [HD.out]
        exact ⟨rfl, hs⟩
  · have HD : Hid (decide (l1 = l2) = false) := Lib.hid (decide_eq_false fun e => hn (by rw [hl1, hl2, e]))
    have h1 : ¬ (n1 : Int) = (n2 : Int) := by omega
    have h2 : ((n1 : Int) == (n2 : Int)) = false := beq_eq_false_iff_ne.2 h1
    rw [HD.out]
    clear hl1 hl2 R1 R2
    go_enter Try.func14, Try.ntmps14
    go_wp2_with fail
    go_ret
    exact ⟨rfl, hs⟩
end Go.Proofs.Ytdcagaaanbgcoaa
