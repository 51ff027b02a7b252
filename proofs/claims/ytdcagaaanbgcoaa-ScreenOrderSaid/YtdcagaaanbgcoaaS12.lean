/- Law 9: made, ids, alike. -/
import Derived.Test.YtdcagaaanbgcoaaS9
import Derived.Test.YtdcagaaanbgcoaaSf
namespace Go.Proofs.Ytdcagaaanbgcoaa
open Go.RowKit Go.Mem Go.Cells Go.Lines
variable {W w : World} {H : List HProp}
theorem slty35 : SlTy Try.prog 35 3 1 8 := ⟨Try.underlying35, by obtain ⟨i0, hi, hz0, hz1, hz2⟩ := info_parts (show (Try.prog.info? 3).map (fun i => (i.zero, i.size, i.bytes)) = some (some (.int .i64 0), 1, 8) by kernel_rfl); exact ⟨i0, _, hi, hz0, hz1, hz2, rfl⟩, by decide⟩
theorem results_tmp3' {P : Program} {fn : Func} {tmps : Array Value} {w : World} {a b c : Tmp} (h : fn.results = #[.tmp a, .tmp b, .tmp c]) : (results fn tmps).run P w = .ok (.tuple #[tmps.getD a undef, tmps.getD b undef, tmps.getD c undef]) w := by
  unfold results
  simp [h]
def idv (L : List LN) : List Int := L.map (·.1)
theorem idv_len (L : List LN) : (idv L).length = L.length := List.length_map _
theorem idv_snoc {L : List LN} {i : Nat} {x : LN} (h : L[i]? = some x) : (idv (L.take i)).map (Value.int .i64) ++ [.int .i64 x.1] = (idv (L.take (i + 1))).map (Value.int .i64) := by
  rw [List.take_add_one, h]
  simp [idv]
attribute [local irreducible] rowTy oneTy World.setCell World.setCells World.alloc World.drew World.drewN Calls sat cel own blk old wpQuiet wpList cmb cmb1 rwP cls rws wi wh fst_ World.rangeAt lrw lnP stP lsP dsP lvs frL downL upL pushs
theorem smade8 {rows cols most : Nat} {keeps : Bool} (r0 : 1 ≤ rows) (r1 : rows ≤ 512) (c0 : 1 ≤ cols) (c1 : cols ≤ 512) (hm : most ≤ 10000) (hs : sat W H w) :
    Calls Try.prog 8 #[.int .i64 (rows : Int), .int .i64 (cols : Int), .int .i64 (most : Int), .bool keeps] w fun e w' => ∃ b s, e = .returned (.tuple #[.pointer (some ⟨b, 0, none⟩), .pointer (some ⟨s, 0, none⟩), .bool true]) ∧ sat W (scP b s ⟨keeps, cols, 0, (rows : Int) - 1, frL rows 1 (frC cols At.z)⟩ :: stP s most (1 + rows) [] :: H) w' := by
  go_enter Try.func8, Try.ntmps8
  go_wp2_with (first | (go_at_call 36; refine (new6 hm (by (apply sk_from (hs := hs); repeat constructor))).mono ?_; clear hs; rintro e w ⟨s, rfl, hs⟩) | (go_at_call 18; refine (snew18 (nx := 1) r0 r1 c0 c1 (by omega) (by omega) (by (apply sk_from (hs := hs); repeat constructor))).mono ?_; clear hs; rintro e w ⟨b, rfl, hs⟩))
  refine end_ret rfl (results_tmp3' rfl) ⟨b, s, rfl, hs⟩
theorem sids11 {b s n p g : Nat} {keeps : Bool} {cols : Nat} {top bot : Int} {ps : List PL} {L : List LN} (h0 : 0 < n) (h5 : n ≤ 512) (HO : Hid (ps.map PL.ln = L ∧ ps.length = n)) (hs : sat W (cel b 46 [.pointer (some ⟨s, 0, none⟩), .bool keeps, .int .i64 cols, .slice (some ⟨g, 0, none⟩) n p, .int .i64 top, .int .i64 bot] :: own 81 2 (.slice (some ⟨g, 0, none⟩) n p) n (lvs ps).flatten :: H) w) :
    Calls Try.prog 11 #[.pointer (some ⟨b, 0, none⟩)] w fun e w' => ∃ a c, e = .returned (.slice a n c) ∧ sat W (own 3 1 (.slice a n c) n ((idv L).map (Value.int .i64)) :: cel b 46 [.pointer (some ⟨s, 0, none⟩), .bool keeps, .int .i64 cols, .slice (some ⟨g, 0, none⟩) n p, .int .i64 top, .int .i64 bot] :: own 81 2 (.slice (some ⟨g, 0, none⟩) n p) n (lvs ps).flatten :: H) w' := by
  have H5 := Lib.hid h5
  have hn63 : (n : Int) ≤ 1000 := by omega
  clear h5
  go_enter Try.func11, Try.ntmps11
  go_wp2_with ((go_at_call 20; refine (srows20 h0 (by (apply sk_from (hs := hs); repeat constructor))).mono ?_; clear hs; rintro e w ⟨rfl, hs⟩))
  go_loopw [7, 3] (fun i v wx => ∃ (i0 : Nat) (a : Option Addr) (c : Nat), i0 ≤ n ∧ i = .int .i64 (i0 : Int) ∧ v = .slice a i0 c ∧ sat W (own 3 1 (.slice a i0 c) i0 ((idv (L.take i0)).map (Value.int .i64)) :: cel b 46 [.pointer (some ⟨s, 0, none⟩), .bool keeps, .int .i64 cols, .slice (some ⟨g, 0, none⟩) n p, .int .i64 top, .int .i64 bot] :: own 81 2 (.slice (some ⟨g, 0, none⟩) n p) n (lvs ps).flatten :: H) wx) (fun i _ _ => ((n : Int) - intOf i).toNat)
  case atStart => exact ⟨0, none, 0, Nat.zero_le _, rfl, rfl, hs.own_nil 3 1⟩
  case round =>
    clear hs
    obtain ⟨i0, a, c, hi, rfl, rfl, hs⟩ := hrel
    by_cases hin : i0 < n
    · have hin2 : (i0 : Int) < (n : Int) := by omega
      obtain ⟨⟨xid, xb, xl⟩, hx⟩ : ∃ x, ps[i0]? = some x := ⟨_, List.getElem?_eq_getElem (by rw [HO.out.2]; exact hin)⟩
      have hx2 : L[i0]? = some (xid, xl) := by rw [← HO.out.1, List.getElem?_map, hx]; rfl
      have HS := Lib.hid (idv_snoc hx2)
      have HX := Lib.hid hx
      clear hx hx2
      go_wp2_with (first | (go_at_call 22; refine (sid22 HX.out hin (by (apply sk_from (hs := hs); repeat constructor))).mono ?_; clear hs; rintro e w ⟨rfl, hs⟩; replace hs : sat W (own 3 1 (.slice a i0 c) i0 ((idv (L.take i0)).map (Value.int .i64)) :: cel b 46 [.pointer (some ⟨s, 0, none⟩), .bool keeps, .int .i64 cols, .slice (some ⟨g, 0, none⟩) n p, .int .i64 top, .int .i64 bot] :: own 81 2 (.slice (some ⟨g, 0, none⟩) n p) n (lvs ps).flatten :: H) w := by refine sb_from ?_ hs; repeat constructor) | (((with_reducible apply app hs.b1); exact rfl; exact rfl; exact rfl; exact rfl; exact slty35; exact rfl; exact rfl; decide; omega; (unfold maxLen; omega); clear hs; intro a9 c9 w hs; rw [HS.out] at hs)) | ((with_reducible refine isl ?_); first | ((with_reducible refine wrap hs ?_); clear hs; intro w hs)))
      go_roundw
      case rel => exact ⟨i0 + 1, _, _, by omega, by go_num, rfl, by refine sb_from ?_ hs; repeat constructor⟩
      case measure => simp [intOf]; omega
    · have hge : ¬ (i0 : Int) < (n : Int) := by omega
      obtain rfl : i0 = n := by omega
      have HE : Hid (L.take i0 = L) := Lib.hid (List.take_of_length_le (by rw [← HO.out.1, List.length_map, HO.out.2]; exact Nat.le_refl _))
      rw [HE.out] at hs
      clear hin
      go_wp2_with fail
      go_ret
      exact ⟨a, c, rfl, hs⟩
theorem salike14 {a1 a2 : Option Addr} {n1 n2 c1 c2 : Nat} {l1 l2 : List Int} (h5 : n1 ≤ 1000) (R1 : SK .i64 W H a1 n1 c1 l1) (R2 : SK .i64 W H a2 n2 c2 l2) (hs : sat W H w) :
    Calls Try.prog 14 #[.slice a1 n1 c1, .slice a2 n2 c2] w fun e w' => e = .returned (.bool (decide (l1 = l2))) ∧ sat W H w' := by
  have hl1 := R1.1
  have hl2 := R2.1
  by_cases hn : n1 = n2
  · subst hn
    have HR1 := Lib.hid R1
    have HR2 := Lib.hid R2
    have HL := Lib.hid (And.intro hl1 hl2)
    have hn63 : (n1 : Int) ≤ 1000 := by omega
    clear R1 R2 hl1 hl2 h5
    go_enter Try.func14, Try.ntmps14
    go_wp2_with fail
    go_loopw [13] (fun i wx => ∃ i0 : Nat, i0 ≤ n1 ∧ i = .int .i64 (i0 : Int) ∧ Hid (l1.take i0 = l2.take i0) ∧ sat W H wx) (fun i _ => ((n1 : Int) - intOf i).toNat)
    case atStart => exact ⟨0, Nat.zero_le _, rfl, Lib.hid rfl, hs⟩
    case round =>
      clear hs
      obtain ⟨i0, hi, rfl, HT, hs⟩ := hrel
      by_cases hin : i0 < n1
      · have hin2 : (i0 : Int) < (n1 : Int) := by omega
        obtain ⟨b1, o1, rfl, q1⟩ := HR1.out.get hs hin
        obtain ⟨b2, o2, rfl, q2⟩ := HR2.out.get hs hin
        obtain ⟨x1, hx1⟩ : ∃ x, l1.getD i0 0 = x := ⟨_, rfl⟩
        obtain ⟨x2, hx2⟩ : ∃ x, l2.getD i0 0 = x := ⟨_, rfl⟩
        rw [hx1] at q1
        rw [hx2] at q2
        have HQ1 := Lib.hid q1
        have HQ2 := Lib.hid q2
        have hg1 : l1[i0]? = some x1 := by
          have h1 : i0 < l1.length := by rw [← HL.out.1]; exact hin
          rw [← hx1, List.getD_eq_getElem?_getD, List.getElem?_eq_getElem h1]; rfl
        have hg2 : l2[i0]? = some x2 := by
          have h1 : i0 < l2.length := by rw [← HL.out.2]; exact hin
          rw [← hx2, List.getD_eq_getElem?_getD, List.getElem?_eq_getElem h1]; rfl
        have HG := Lib.hid (And.intro hg1 hg2)
        clear q1 q2 hx1 hx2 hg1 hg2
        by_cases hx : x1 = x2
        · subst hx
          go_upto_region 6 with fail
          ((try simp only [Act.put, List.setIfInBounds_toArray, List.set_cons_succ, List.set_cons_zero]); refine region_sat hs (by kernel_rfl) (by kernel_rfl) ?_; intro X f hne hf hcl; (repeat ((first | (apply ldcq; exact rfl; exact rfl; exact rfl; exact fun y => HQ1.out _ (hf y); exact one3) | (apply ldcq; exact rfl; exact rfl; exact rfl; exact fun y => HQ2.out _ (hf y); exact one3) | go_big_quiet_step (fail)); (try simp only [Act.put, List.setIfInBounds_toArray, List.set_cons_succ, List.set_cons_zero]))); refine wpQuiet_nil ?_; clear hcl hf hne hs f X; intro w hs)
          go_wp2_with fail
          go_roundw
          case rel => exact ⟨i0 + 1, by omega, by go_num, Lib.hid (by rw [List.take_add_one, List.take_add_one, HT.out, HG.out.1, HG.out.2]), hs⟩
          case measure => simp [intOf]; omega
        · have HD : Hid (decide (l1 = l2) = false) := Lib.hid (decide_eq_false fun e => by
            have h1 := HG.out.1
            rw [e, HG.out.2] at h1
            exact hx (Option.some.inj h1).symm)
          have hx' : (x1 == x2) = false := beq_eq_false_iff_ne.2 hx
          go_upto_region 6 with fail
          ((try simp only [Act.put, List.setIfInBounds_toArray, List.set_cons_succ, List.set_cons_zero]); refine region_sat hs (by kernel_rfl) (by kernel_rfl) ?_; intro X f hne hf hcl; (repeat ((first | (apply ldcq; exact rfl; exact rfl; exact rfl; exact fun y => HQ1.out _ (hf y); exact one3) | (apply ldcq; exact rfl; exact rfl; exact rfl; exact fun y => HQ2.out _ (hf y); exact one3) | go_big_quiet_step (fail)); (try simp only [Act.put, List.setIfInBounds_toArray, List.set_cons_succ, List.set_cons_zero]))); refine wpQuiet_nil ?_; clear hcl hf hne hs f X; intro w hs)
          go_wp2_with fail
          go_ret
          rw [HD.out]
          exact ⟨rfl, hs⟩
      · have hge : ¬ (i0 : Int) < (n1 : Int) := by omega
        have HD : Hid (decide (l1 = l2) = true) := Lib.hid (decide_eq_true (by
          have h1 := HT.out
          rw [List.take_of_length_le (by rw [← HL.out.1]; omega), List.take_of_length_le (by rw [← HL.out.2]; omega)] at h1
          exact h1))
        clear hin
        go_wp2_with fail
        go_ret
        rw [HD.out]
        exact ⟨rfl, hs⟩
  · have HD : Hid (decide (l1 = l2) = false) := Lib.hid (decide_eq_false fun e => hn (by rw [hl1, hl2, e]))
    have h1 : ¬ (n1 : Int) = (n2 : Int) := by omega
    have h2 : ((n1 : Int) == (n2 : Int)) = false := beq_eq_false_iff_ne.2 h1
    rw [HD.out]
    clear hl1 hl2 R1 R2
    go_enter Try.func14, Try.ntmps14
    go_wp2_with fail
    go_ret
    exact ⟨rfl, hs⟩
end Go.Proofs.Ytdcagaaanbgcoaa
namespace Go.Proofs.Ytdcagaaanbgcoaa
open Go.RowKit Go.Mem Go.Cells Go.Lines
variable {W w : World} {H : List HProp}
attribute [local irreducible] rowTy oneTy World.setCell World.setCells World.alloc World.drew World.drewN Calls sat cel own blk old wpQuiet wpList cmb cmb1 rwP cls rws wi wh fst_ World.rangeAt lrw lnP stP lsP dsP lvs
abbrev fC3 : List C := frC 3 At.z
abbrev kL : List LN := frL 4 1 fC3
def kA : List LN := upL kL 0 4 (hld 1 4) (frL (hld 1 4) 5 fC3)
def kB : List LN := downL kL 1 2 (hld 1 2) (frL (hld 1 2) 5 fC3)
def kD : List LN := upL kL 1 3 (hld 2 3) (frL (hld 2 3) 5 fC3)
def kR : List LN := ((kL.drop 1).take 2).map (rszL 3) ++ frL 0 5 fC3
def kS : List LN := pushs 9 [] ((kL.drop 0).take (hld 1 4))
def kT : List LN := pushs 9 [] (kL.take 1)
theorem kA_i : Hid (idv kA = [2, 3, 4, 5]) := Lib.hid (by kernel_rfl)
theorem kB_i : Hid (idv kB = [1, 5, 2, 4]) := Lib.hid (by kernel_rfl)
theorem kD_i : Hid (idv kD = [1, 4, 5, 6]) := Lib.hid (by kernel_rfl)
theorem kR_i : Hid (idv kR = [2, 3]) := Lib.hid (by kernel_rfl)
theorem kS_l : kS.length = 1 := by kernel_rfl
theorem kS_f : Hid (fnd kS 1 = 0) := Lib.hid (by kernel_rfl)
theorem kT_f : Hid (fnd kT 1 = 0) := Lib.hid (by kernel_rfl)
theorem kL_ok : LOK kL := frL_ok (by decide) (by decide)
theorem kL_id : IDK 5 kL := fun x hx => by
  unfold kL frL at hx
  obtain ⟨j, hj, rfl⟩ := List.mem_map.1 hx
  have := List.mem_range.1 hj
  constructor <;> (dsimp only; omega)
theorem alk {a1 : Option Addr} {n1 c1 z k : Nat} {l1 l2 : List Int} (h5 : n1 ≤ 1000) (hk : l2.length = k) (hk2 : k ≤ 1000) (hs : sat W (own 3 1 (.slice a1 n1 c1) n1 (l1.map (Value.int .i64)) :: cel z 3 (l2.map (Value.int .i64)) :: H) w) :
    Calls Try.prog 14 #[.slice a1 n1 c1, .slice (some ⟨z, 0, none⟩) k k] w fun e w' => e = .returned (.bool (decide (l1 = l2))) ∧ sat W (own 3 1 (.slice a1 n1 c1) n1 (l1.map (Value.int .i64)) :: cel z 3 (l2.map (Value.int .i64)) :: H) w' :=
  salike14 h5 (SK.of_own hs) ((SK.of_cel hk.symm (by unfold maxLen; omega)).mono fun w' h => by refine sb_from ?_ h; repeat constructor) hs
theorem ids_k {b s n : Nat} {keeps : Bool} {cols : Nat} {top bot : Int} {L : List LN} {l : List Int} (he : Hid (idv L = l)) (hn : L.length = n) (h0 : 0 < n) (h5 : n ≤ 512) (hs : sat W (scP b s ⟨keeps, cols, top, bot, L⟩ :: H) w) :
    Calls Try.prog 11 #[.pointer (some ⟨b, 0, none⟩)] w fun e w' => ∃ a c, e = .returned (.slice a n c) ∧ sat W (own 3 1 (.slice a n c) n (l.map (Value.int .i64)) :: scP b s ⟨keeps, cols, top, bot, L⟩ :: H) w' := by
  obtain ⟨ps, g, p, HO, hs⟩ := sc_open' hn h0 hs
  refine (sids11 h0 h5 HO hs).mono ?_
  clear hs
  rintro e w ⟨a, c, rfl, hs⟩
  rw [he.out] at hs
  exact ⟨a, c, rfl, (sc_close HO (by refine sb_from ?_ hs; repeat constructor : sat W (cel b 46 [.pointer (some ⟨s, 0, none⟩), .bool keeps, .int .i64 cols, .slice (some ⟨g, 0, none⟩) n p, .int .i64 top, .int .i64 bot] :: own 81 2 (.slice (some ⟨g, 0, none⟩) n p) n (lvs ps).flatten :: lrw 96 ps :: own 3 1 (.slice a n c) n (l.map (Value.int .i64)) :: H) w)).swap⟩
theorem kmade (hs : sat W H w) : Calls Try.prog 8 #[.int .i64 4, .int .i64 3, .int .i64 9, .bool true] w fun e w' => ∃ b s, e = .returned (.tuple #[.pointer (some ⟨b, 0, none⟩), .pointer (some ⟨s, 0, none⟩), .bool true]) ∧ sat W (scP b s ⟨true, 3, 0, 3, kL⟩ :: stP s 9 5 [] :: H) w' := smade8 (rows := 4) (cols := 3) (most := 9) (by decide) (by decide) (by decide) (by decide) (by decide) hs
theorem kup {b s : Nat} (hs : sat W (scP b s ⟨true, 3, 0, 3, kL⟩ :: stP s 9 5 [] :: H) w) : Calls Try.prog 12 #[.pointer (some ⟨b, 0, none⟩), .int .i64 1, aV At.z] w fun e w' => e = .returned (.int .i64 0) ∧ sat W (scP b s ⟨true, 3, 0, 3, kA⟩ :: stP s 9 6 kS :: H) w' :=
  sup12_push (N := 4) (f := 0) (k := 4) rfl (by decide) (by decide) rfl rfl (by decide) (by decide) (by decide) (by decide) (by decide) (by decide) rfl kL_ok kL_id (by decide) hs
theorem kdn {b s : Nat} (hs : sat W (scP b s ⟨true, 3, 1, 2, kL⟩ :: stP s 9 5 [] :: H) w) : Calls Try.prog 13 #[.pointer (some ⟨b, 0, none⟩), .int .i64 1, aV At.z] w fun e w' => e = .returned (.int .i64 0) ∧ sat W (scP b s ⟨true, 3, 1, 2, kB⟩ :: stP s 9 6 [] :: H) w' :=
  sdn13 (N := 4) (f := 1) (k := 2) rfl (by decide) (by decide) rfl rfl (by decide) (by decide) (by decide) (by decide) (by decide) (by decide) hs
theorem kde {b s : Nat} (hs : sat W (scP b s ⟨true, 3, 0, 3, kL⟩ :: stP s 9 5 [] :: H) w) : Calls Try.prog 17 #[.pointer (some ⟨b, 0, none⟩), .int .i64 1, .int .i64 2, aV At.z] w fun e w' => e = .returned (.int .i64 0) ∧ sat W (scP b s ⟨true, 3, 0, 3, kD⟩ :: stP s 9 7 [] :: H) w' :=
  sdel17 (N := 4) (f := 1) (k := 3) rfl (by decide) (by decide) (by decide) rfl (by decide) (by decide) (by decide) (by decide) (by decide) (by decide) hs
theorem krs {b s : Nat} (hs : sat W (scP b s ⟨true, 3, 0, 3, kL⟩ :: stP s 9 5 [] :: H) w) : Calls Try.prog 19 #[.pointer (some ⟨b, 0, none⟩), .int .i64 2, .int .i64 3, .int .i64 2] w fun e w' => e = .returned (.tuple #[.int .i64 1, .int .i64 0]) ∧ sat W (scP b s ⟨true, 3, 0, 1, kR⟩ :: stP s 9 5 kT :: H) w' :=
  sresize19_true (N := 4) (rows := 2) (c2 := 3) (y := 2) (k := 1) (n1 := 2) (m := 0) rfl (by decide) kL_ok kL_id (by decide) (by decide) (by decide) (by decide) (by decide) rfl rfl rfl (by decide) (by decide) (by decide) hs
theorem kset {b s : Nat} (hs : sat W (scP b s ⟨true, 3, 0, 3, kL⟩ :: H) w) : Calls Try.prog 9 #[.pointer (some ⟨b, 0, none⟩), .int .i64 1, .int .i64 2] w fun e w' => e = .returned (.int .i64 0) ∧ sat W (scP b s ⟨true, 3, 1, 2, kL⟩ :: H) w' := by
  obtain ⟨ps, g, p, HO, hs⟩ := sc_open' (n := 4) rfl (by decide) hs
  refine (sset9 (n := 4) (t2 := 1) (b2 := 2) (by decide) (by decide) (.inr (by decide)) hs).mono ?_
  clear hs
  rintro e w ⟨rfl, hs⟩
  exact ⟨rfl, sc_close HO (by refine sb_from ?_ hs; repeat constructor)⟩

set_option maxRecDepth 20000 in
theorem known7 (hs : sat W H w) : Calls Try.prog 7 #[] w fun e w' => e = .returned (.bool true) ∧ sat W H w' := by
  go_enter Try.func7, Try.ntmps7
  go_wp2_with fail
  go_loopw [7] (fun i wx => (i = .int .i64 0 ∨ i = .int .i64 1 ∨ i = .int .i64 2 ∨ i = .int .i64 3 ∨ i = .int .i64 4) ∧ sat W H wx) (fun i _ => ((4 : Int) - intOf i).toNat)
  case atStart => exact ⟨.inl rfl, hs⟩
  case round =>
    clear hs
    obtain ⟨hi, hs⟩ := hrel
    rcases hi with rfl | rfl | rfl | rfl | rfl
    · go_wp2_with (first | (go_at_call 8; refine (kmade (by (apply sk_from (hs := hs); repeat constructor))).mono ?_; clear hs; rintro e w ⟨b, s, rfl, hs⟩) | (go_at_call 12; refine (kup (by (apply sk_from (hs := hs); repeat constructor))).mono ?_; clear hs; rintro e w ⟨rfl, hs⟩) | (go_at_call 11; refine (ids_k kA_i rfl (by decide) (by decide) (by (apply sk_from (hs := hs); repeat constructor))).mono ?_; clear hs; rintro e w ⟨a, c, rfl, hs⟩) | (go_at_call 14; refine (alk (l2 := [2, 3, 4, 5]) (by decide) rfl (by decide) (by (apply sk_from (hs := hs); repeat constructor))).mono ?_; clear hs; rintro e w ⟨rfl, hs⟩) | (go_at_call 15; refine (len10_st (nx := 6) kS_l (by decide) (by (apply sk_from (hs := hs); repeat constructor))).mono ?_; clear hs; rintro e w ⟨rfl, hs⟩) | (go_at_call 31; refine (find13 (most := 9) (nx := 6) (by decide) (by decide) (by (apply sk_from (hs := hs); repeat constructor))).mono ?_; clear hs; rintro e w ⟨rfl, hs⟩; rw [kS_f.out]) | ((with_reducible refine isl ?_); first | ((with_reducible refine wrap hs ?_); clear hs; generalize World.heap _ = q9 at *; generalize q9.size = z9; intro w hs)))
      go_roundw
      case rel => exact ⟨.inr (.inl rfl), hs.drop.drop.drop.drop⟩
      case measure => simp [intOf]
    · go_wp2_with (first | (go_at_call 8; refine (kmade (by (apply sk_from (hs := hs); repeat constructor))).mono ?_; clear hs; rintro e w ⟨b, s, rfl, hs⟩) | (go_at_call 9; refine (kset (by (apply sk_from (hs := hs); repeat constructor))).mono ?_; clear hs; rintro e w ⟨rfl, hs⟩) | (go_at_call 13; refine (kdn (by (apply sk_from (hs := hs); repeat constructor))).mono ?_; clear hs; rintro e w ⟨rfl, hs⟩) | (go_at_call 11; refine (ids_k kB_i rfl (by decide) (by decide) (by (apply sk_from (hs := hs); repeat constructor))).mono ?_; clear hs; rintro e w ⟨a, c, rfl, hs⟩) | (go_at_call 14; refine (alk (l2 := [1, 5, 2, 4]) (by decide) rfl (by decide) (by (apply sk_from (hs := hs); repeat constructor))).mono ?_; clear hs; rintro e w ⟨rfl, hs⟩) | (go_at_call 15; refine (len10_st (nx := 6) (L := []) (n := 0) rfl (by decide) (by (apply sk_from (hs := hs); repeat constructor))).mono ?_; clear hs; rintro e w ⟨rfl, hs⟩) | ((with_reducible refine isl ?_); first | ((with_reducible refine wrap hs ?_); clear hs; generalize World.heap _ = q9 at *; generalize q9.size = z9; intro w hs)))
      go_roundw
      case rel => exact ⟨.inr (.inr (.inl rfl)), hs.drop.drop.drop.drop⟩
      case measure => simp [intOf]
    · go_wp2_with (first | (go_at_call 8; refine (kmade (by (apply sk_from (hs := hs); repeat constructor))).mono ?_; clear hs; rintro e w ⟨b, s, rfl, hs⟩) | (go_at_call 17; refine (kde (by (apply sk_from (hs := hs); repeat constructor))).mono ?_; clear hs; rintro e w ⟨rfl, hs⟩) | (go_at_call 11; refine (ids_k kD_i rfl (by decide) (by decide) (by (apply sk_from (hs := hs); repeat constructor))).mono ?_; clear hs; rintro e w ⟨a, c, rfl, hs⟩) | (go_at_call 14; refine (alk (l2 := [1, 4, 5, 6]) (by decide) rfl (by decide) (by (apply sk_from (hs := hs); repeat constructor))).mono ?_; clear hs; rintro e w ⟨rfl, hs⟩) | (go_at_call 15; refine (len10_st (nx := 7) (L := []) (n := 0) rfl (by decide) (by (apply sk_from (hs := hs); repeat constructor))).mono ?_; clear hs; rintro e w ⟨rfl, hs⟩) | ((with_reducible refine isl ?_); first | ((with_reducible refine wrap hs ?_); clear hs; generalize World.heap _ = q9 at *; generalize q9.size = z9; intro w hs)))
      go_roundw
      case rel => exact ⟨.inr (.inr (.inr (.inl rfl))), hs.drop.drop.drop.drop⟩
      case measure => simp [intOf]
    · go_wp2_with (first | (go_at_call 8; refine (kmade (by (apply sk_from (hs := hs); repeat constructor))).mono ?_; clear hs; rintro e w ⟨b, s, rfl, hs⟩) | (go_at_call 19; refine (krs (by (apply sk_from (hs := hs); repeat constructor))).mono ?_; clear hs; rintro e w ⟨rfl, hs⟩) | (go_at_call 11; refine (ids_k kR_i rfl (by decide) (by decide) (by (apply sk_from (hs := hs); repeat constructor))).mono ?_; clear hs; rintro e w ⟨a, c, rfl, hs⟩) | (go_at_call 14; refine (alk (l2 := [2, 3]) (by decide) rfl (by decide) (by (apply sk_from (hs := hs); repeat constructor))).mono ?_; clear hs; rintro e w ⟨rfl, hs⟩) | (go_at_call 31; refine (find13 (most := 9) (nx := 5) (by decide) (by decide) (by (apply sk_from (hs := hs); repeat constructor))).mono ?_; clear hs; rintro e w ⟨rfl, hs⟩; rw [kT_f.out]) | ((with_reducible refine isl ?_); first | ((with_reducible refine wrap hs ?_); clear hs; generalize World.heap _ = q9 at *; generalize q9.size = z9; intro w hs)))
      go_roundw
      case rel => exact ⟨.inr (.inr (.inr (.inr rfl))), hs.drop.drop.drop.drop⟩
      case measure => simp [intOf]
    · go_wp2_with fail
      go_ret
      exact ⟨rfl, hs⟩
end Go.Proofs.Ytdcagaaanbgcoaa
namespace Go.Proofs.Ytdcagaaanbgcoaa
open Go.RowKit Go.Mem Go.Cells Go.Lines
variable {W w : World} {H : List HProp} {α : Type}
theorem hld_z (k : Nat) : hld 0 k = 0 := by unfold hld; omega
theorem hld_n (k : Nat) : hld (-1) k = 0 := by unfold hld; omega
theorem pushs_z (most : Nat) (SL : List LN) : pushs most SL [] = SL := rfl
theorem frL_z (nx : Int) (fc : List C) : frL 0 nx fc = [] := rfl
theorem tdd (L : List α) (f k : Nat) : L.take f ++ (L.drop f).take k ++ L.drop (f + k) = L := by
  rw [List.append_assoc, ← List.drop_drop, List.take_append_drop, List.take_append_drop]
theorem upL_z (L : List α) (f k : Nat) : upL L f k 0 [] = L := by
  unfold upL
  rw [Nat.add_zero, Nat.sub_zero, List.append_nil, tdd]
theorem downL_z (L : List α) (f k : Nat) : downL L f k 0 [] = L := by
  unfold downL
  rw [Nat.sub_zero, List.append_nil, tdd]
theorem frL_get {n j : Nat} (nx : Int) (fc : List C) (h : j < n) : (frL n nx fc)[j]? = some (nx + (j : Int), fc) := by
  unfold frL
  rw [List.getElem?_map, List.getElem?_range h]
  rfl
theorem back_is (L : List α) {f k m : Nat} {F G : List α} (hm : m ≤ k) (h : f + k ≤ L.length) (hF : F.length = m) : upL (downL L f k m F) f k m G = L.take f ++ (L.drop f).take (k - m) ++ G ++ L.drop (f + k) := by
  have h1 : (L.take f).length = f := by rw [List.length_take]; omega
  have h2 : ((L.drop f).take (k - m)).length = k - m := by rw [List.length_take, List.length_drop]; omega
  unfold upL downL
  generalize (L.drop f).take (k - m) = B at *
  generalize L.drop (f + k) = D at *
  generalize L.take f = A at *
  have e1 : (A ++ F ++ B ++ D).take f = A := by rw [List.append_assoc, List.append_assoc, tk1 h1]
  have e2 : (A ++ F ++ B ++ D).drop (f + m) = B ++ D := by rw [List.append_assoc, ← List.drop_drop, List.append_assoc, dp1 h1, dp1 hF]
  have e3 : (A ++ F ++ B ++ D).drop (f + k) = D := by
    have : (A ++ F ++ B).length = f + k := by rw [List.length_append, List.length_append]; omega
    rw [dp1 this]
  rw [e1, e2, e3, tk1 h2]
/-- What is back. -/
def backL (L : List LN) (f k m : Nat) (nx : Int) (fc : List C) : List LN := upL (downL L f k m (frL m nx fc)) f k m (frL m (nx + m) fc)
theorem backL_len (L : List LN) {f k m : Nat} {nx : Int} {fc : List C} (hm : m ≤ k) (h : f + k ≤ L.length) : (backL L f k m nx fc).length = L.length := by
  unfold backL
  rw [upL_len _ hm (by rw [downL_len _ hm h (frL_len _ _ _)]; exact h) (frL_len _ _ _), downL_len _ hm h (frL_len _ _ _)]
theorem back_get {N f k m i : Nat} {nx : Int} {c0 fc : List C} (hm : m ≤ k) (h : f + k ≤ N) (hi : i < N) : ((idv (backL (frL N 1 c0) f k m nx fc)).getD i 0) = if f + k - m ≤ i ∧ i < f + k then nx + m + ((i - (f + k - m) : Nat) : Int) else 1 + (i : Int) := by
  have hL : (frL N 1 c0).length = N := frL_len _ _ _
  have e : (backL (frL N 1 c0) f k m nx fc)[i]? = some (if f + k - m ≤ i ∧ i < f + k then (nx + m + ((i - (f + k - m) : Nat) : Int), fc) else (1 + (i : Int), c0)) := by
    unfold backL
    rw [back_is _ hm (by rw [hL]; exact h) (frL_len _ _ _)]
    have h1 : ((frL N 1 c0).take f).length = f := by rw [List.length_take, hL]; omega
    have h2 : (((frL N 1 c0).drop f).take (k - m)).length = k - m := by rw [List.length_take, List.length_drop, hL]; omega
    have h3 : (frL m (nx + m) fc).length = m := frL_len _ _ _
    by_cases c1 : i < f
    · rw [List.append_assoc, List.append_assoc, List.getElem?_append_left (by rw [h1]; exact c1), List.getElem?_take, if_pos c1, frL_get _ _ hi, if_neg (by omega)]
    · by_cases c2 : i < f + k - m
      · rw [List.append_assoc, List.append_assoc, List.getElem?_append_right (by rw [h1]; omega), h1, List.getElem?_append_left (by rw [h2]; omega), List.getElem?_take, if_pos (by omega), List.getElem?_drop, show f + (i - f) = i by omega, frL_get _ _ hi, if_neg (by omega)]
      · by_cases c3 : i < f + k
        · rw [List.append_assoc, List.append_assoc, List.getElem?_append_right (by rw [h1]; omega), h1, List.getElem?_append_right (by rw [h2]; omega), h2, List.getElem?_append_left (by rw [h3]; omega), frL_get _ _ (by omega), if_pos (by omega), show i - f - (k - m) = i - (f + k - m) by omega]
        · rw [List.append_assoc, List.append_assoc, List.getElem?_append_right (by rw [h1]; omega), h1, List.getElem?_append_right (by rw [h2]; omega), h2, List.getElem?_append_right (by rw [h3]; omega), h3, List.getElem?_drop, show f + k + (i - f - (k - m) - m) = i by omega, frL_get _ _ hi, if_neg (by omega)]
  unfold idv
  rw [List.getD_eq_getElem?_getD, List.getElem?_map, e]
  split <;> rfl
theorem id_get {N i : Nat} {c0 : List C} (hi : i < N) : (idv (frL N 1 c0)).getD i 0 = 1 + (i : Int) := by
  unfold idv
  rw [List.getD_eq_getElem?_getD, List.getElem?_map, frL_get _ _ hi]
  rfl
attribute [local irreducible] rowTy oneTy World.setCell World.setCells World.alloc World.drew World.drewN Calls sat cel own blk old wpQuiet wpList cmb cmb1 rwP cls rws wi wh fst_ World.rangeAt lrw lnP stP lsP dsP lvs frL downL upL pushs backL idv
section
variable {b s N cols most f k : Nat} {nx top bot : Int} {L SL : List LN} {at_ : At}
theorem sset9_any {t2 b2 : Int} {keeps : Bool} (hn : L.length = N) (h0 : 0 < N) (hN : N ≤ 512) (hs : sat W (scP b s ⟨keeps, cols, 0, (N : Int) - 1, L⟩ :: H) w) :
    Calls Try.prog 9 #[.pointer (some ⟨b, 0, none⟩), .int .i64 t2, .int .i64 b2] w fun e w' => ∃ (v : Value) (f k : Nat) (B : Int), e = .returned v ∧ f + k ≤ N ∧ 0 < k ∧ Hid (B = ((f + k : Nat) : Int) - 1) ∧ sat W (scP b s ⟨keeps, cols, (f : Int), B, L⟩ :: H) w' := by
  obtain ⟨ps, g, p, HO, hs⟩ := sc_open' hn h0 hs
  by_cases hP : MOK N t2 b2
  · have hP2 := hP
    refine (sset9 h0 hN hP hs).mono ?_
    clear hs
    rintro e w ⟨rfl, hs⟩
    unfold MOK at hP2
    refine ⟨_, t2.toNat, (b2 + 1 - t2).toNat, _, rfl, by omega, by omega, Lib.hid rfl, ?_⟩
    have e1 : ((t2.toNat : Nat) : Int) = t2 := by omega
    have e2 : ((t2.toNat + (b2 + 1 - t2).toNat : Nat) : Int) - 1 = b2 := by omega
    rw [e1, e2]
    exact sc_close HO (by refine sb_from ?_ hs; repeat constructor)
  · refine (sset9_no h0 hN hP hs).mono ?_
    clear hs
    rintro e w ⟨rfl, hs⟩
    refine ⟨_, 0, N, _, rfl, by omega, h0, Lib.hid (by rw [Nat.zero_add]), ?_⟩
    exact sc_close HO (by refine sb_from ?_ hs; repeat constructor)
theorem smargins_sc {keeps : Bool} (hn : L.length = N) (h0 : 0 < N) (hs : sat W (scP b s ⟨keeps, cols, top, bot, L⟩ :: H) w) :
    Calls Try.prog 10 #[.pointer (some ⟨b, 0, none⟩)] w fun e w' => e = .returned (.tuple #[.int .i64 top, .int .i64 bot]) ∧ sat W (scP b s ⟨keeps, cols, top, bot, L⟩ :: H) w' := by
  obtain ⟨ps, g, p, HO, hs⟩ := sc_open' hn h0 hs
  refine (smargins10 h0 hs).mono ?_
  clear hs
  rintro e w ⟨rfl, hs⟩
  exact ⟨rfl, sc_close HO (by refine sb_from ?_ hs; repeat constructor)⟩
theorem sup12_z (hn : L.length = N) (h0 : 0 < N) (hN : N ≤ 512) (hb : bot = ((f + k : Nat) : Int) - 1) (hf : f + k ≤ N) (hk : 0 < k) (c0 : 1 ≤ cols) (c1 : cols ≤ 512) (hnx : 0 < nx) (hnb : nx + 512 ≤ 1000000) (ok : LOK L) (idk : IDK nx L) (hmo : most ≤ 10000)
    (hs : sat W (scP b s ⟨true, cols, (f : Int), bot, L⟩ :: stP s most nx SL :: H) w) :
    Calls Try.prog 12 #[.pointer (some ⟨b, 0, none⟩), .int .i64 0, aV at_] w fun e w' => e = .returned (.int .i64 0) ∧ sat W (scP b s ⟨true, cols, (f : Int), bot, L⟩ :: stP s most nx SL :: H) w' := by
  have e0 : nx + ((0 : Nat) : Int) = nx := by omega
  by_cases hf0 : f = 0
  · have h := sup12_push (q := 0) (at_ := at_) hn h0 hN rfl hb hf hk c0 c1 hnx hnb hf0 ok idk hmo hs
    rw [hld_z, frL_z, upL_z, e0, List.take_zero, pushs_z] at h
    exact h
  · have h := sup12_mid (q := 0) (at_ := at_) hn h0 hN rfl hb hf hk c0 c1 hnx hnb (by omega) hs
    rw [hld_z, frL_z, upL_z, e0] at h
    exact h
theorem sdn13_z {keeps : Bool} (hn : L.length = N) (h0 : 0 < N) (hN : N ≤ 512) (hb : bot = ((f + k : Nat) : Int) - 1) (hf : f + k ≤ N) (hk : 0 < k) (c0 : 1 ≤ cols) (c1 : cols ≤ 512) (hnx : 0 < nx) (hnb : nx + 512 ≤ 1000000)
    (hs : sat W (scP b s ⟨keeps, cols, (f : Int), bot, L⟩ :: stP s most nx SL :: H) w) :
    Calls Try.prog 13 #[.pointer (some ⟨b, 0, none⟩), .int .i64 (-1), aV at_] w fun e w' => e = .returned (.int .i64 0) ∧ sat W (scP b s ⟨keeps, cols, (f : Int), bot, L⟩ :: stP s most nx SL :: H) w' := by
  have e0 : nx + ((0 : Nat) : Int) = nx := by omega
  have h := sdn13 (q := -1) (at_ := at_) hn h0 hN rfl hb hf hk c0 c1 hnx hnb hs
  rw [hld_n, frL_z, downL_z, e0] at h
  exact h
theorem alk2 {a1 a2 : Option Addr} {n1 c1 n2 c2 : Nat} {l1 l2 : List Int} (h5 : n1 ≤ 1000) (hs : sat W (own 3 1 (.slice a1 n1 c1) n1 (l1.map (Value.int .i64)) :: own 3 1 (.slice a2 n2 c2) n2 (l2.map (Value.int .i64)) :: H) w) :
    Calls Try.prog 14 #[.slice a1 n1 c1, .slice a2 n2 c2] w fun e w' => e = .returned (.bool (decide (l1 = l2))) ∧ sat W (own 3 1 (.slice a1 n1 c1) n1 (l1.map (Value.int .i64)) :: own 3 1 (.slice a2 n2 c2) n2 (l2.map (Value.int .i64)) :: H) w' :=
  salike14 h5 (SK.of_own hs) ((SK.of_own hs.swap).mono fun w' h => h.swap) hs
theorem snew18_no {r c : Int} {keeps : Bool} {v : Value} (h : ¬ ((1 ≤ r ∧ r ≤ 512) ∧ (1 ≤ c ∧ c ≤ 512))) (hs : sat W H w) :
    Calls Try.prog 18 #[.int .i64 r, .int .i64 c, v, .bool keeps] w fun e w' => e = .returned (.tuple #[.pointer none, .int .i64 2]) ∧ sat W H w' := by
  by_cases h1 : 1 ≤ r ∧ r ≤ 512
  · have HN := Lib.hid (show decide (1 ≤ r ∧ r ≤ 512) = true from decide_eq_true h1)
    have HC := Lib.hid (show decide (1 ≤ c ∧ c ≤ 512) = false from decide_eq_false fun h2 => h ⟨h1, h2⟩)
    clear h h1
    go_enter Try.func18, Try.ntmps18
    go_wp2_with (first | (go_at_call 44; refine (may44 (x := r) hs).mono ?_; clear hs; rintro e w ⟨rfl, hs⟩; rw [HN.out]) | (go_at_call 44; refine (may44 (x := c) hs).mono ?_; clear hs; rintro e w ⟨rfl, hs⟩; rw [HC.out]))
    refine end_ret rfl (results_tmp2 rfl _ _ _) ⟨rfl, hs⟩
  · have HN := Lib.hid (show decide (1 ≤ r ∧ r ≤ 512) = false from decide_eq_false h1)
    clear h h1
    go_enter Try.func18, Try.ntmps18
    go_wp2_with ((go_at_call 44; refine (may44 (x := r) hs).mono ?_; clear hs; rintro e w ⟨rfl, hs⟩; rw [HN.out]))
    refine end_ret rfl (results_tmp2 rfl _ _ _) ⟨rfl, hs⟩
theorem smade8_no {r c : Int} {keeps : Bool} (h : ¬ ((1 ≤ r ∧ r ≤ 512) ∧ (1 ≤ c ∧ c ≤ 512))) (hm : most ≤ 10000) (hs : sat W H w) :
    Calls Try.prog 8 #[.int .i64 r, .int .i64 c, .int .i64 (most : Int), .bool keeps] w fun e w' => ∃ s, e = .returned (.tuple #[.pointer none, .pointer (some ⟨s, 0, none⟩), .bool false]) ∧ sat W (stP s most 1 [] :: H) w' := by
  go_enter Try.func8, Try.ntmps8
  go_wp2_with (first | (go_at_call 36; refine (new6 hm (by (apply sk_from (hs := hs); repeat constructor))).mono ?_; clear hs; rintro e w ⟨s, rfl, hs⟩) | (go_at_call 18; refine (snew18_no h hs).mono ?_; clear hs; rintro e w ⟨rfl, hs⟩))
  refine end_ret rfl (results_tmp3' rfl) ⟨s, rfl, hs⟩
end
end Go.Proofs.Ytdcagaaanbgcoaa
