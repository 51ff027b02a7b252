/- Law 9: the document's Resize. -/
import Derived.Test.YtdcagaaanbgcoaaSf
import Derived.Test.YtdcagaaanbgcoaaS24
namespace Go.Proofs.Ytdcagaaanbgcoaa
open Go.RowKit Go.Mem Go.Cells Go.Lines
variable {W w : World} {H : List HProp}
attribute [local irreducible] rowTy oneTy World.setCell World.setCells World.alloc World.drew World.drewN Calls sat cel own blk old wpQuiet wpList cmb cmb1 rwP cls rws wi wh fst_ World.rangeAt lrw lnP stP lsP dsP lvs frL downL upL pushs dcP Rds
/-- Ids that are unlike. -/
def NDK (L : List LN) : Prop := (L.map (·.1)).Nodup
theorem ndk_ne {L : List LN} (h : NDK L) {i j : Nat} {x y : LN} (hi : L[i]? = some x) (hj : L[j]? = some y) (hij : i < j) : x.1 ≠ y.1 := by
  intro e
  have h1 : (L.map (·.1))[i]? = some x.1 := by rw [List.getElem?_map, hi]; rfl
  have h2 : (L.map (·.1))[j]? = some y.1 := by rw [List.getElem?_map, hj]; rfl
  obtain ⟨l1, e1⟩ := List.getElem?_eq_some_iff.1 h1
  obtain ⟨l2, e2⟩ := List.getElem?_eq_some_iff.1 h2
  have h3 := (List.nodup_iff_pairwise_ne.1 h)
  have h4 := List.pairwise_iff_getElem.1 h3 i j l1 l2 hij
  rw [e1, e2] at h4
  exact h4 e
theorem ffst_is {L : List LN} (h : NDK L) {i : Nat} {x : LN} (hi : L[i]? = some x) : ffst L x.1 = i :=
  ffst_hit (fun j y hj hy => ndk_ne h hy hi hj) hi rfl
theorem ndk_drop {L : List LN} (h : NDK L) (k : Nat) : NDK (L.drop k) := by
  unfold NDK at h ⊢
  rw [List.map_drop]
  exact h.sublist (List.drop_sublist _ _)
theorem ffst_rsz (m : Nat) : ∀ (L : List LN) (id : Int), ffst (L.map (rszL m)) id = ffst L id
  | [], _ => rfl
  | x :: l, id => by
    rw [List.map_cons, ffst, ffst, ffst_rsz m l id]
    rfl
theorem ffst_app {L F : List LN} {id : Int} (h : 0 ≤ ffst L id) : ffst (L ++ F) id = ffst L id := by
  induction L with
  | nil => simp [ffst] at h
  | cons x l ih =>
    rw [List.cons_append, ffst, ffst]
    rw [ffst] at h
    by_cases hx : x.1 = id
    · rw [if_pos hx, if_pos hx]
    · rw [if_neg hx] at h
      by_cases hl : 0 ≤ ffst l id
      · rw [if_neg hx, if_neg hx, ih hl]
      · rw [if_neg hl] at h; omega
theorem find_new {L F : List LN} {y k n1 m : Nat} {x : LN} (h : NDK L) (hy : L[y]? = some x) (hk : k ≤ y) (hn : y - k < n1) : ffst (((L.drop k).take n1).map (rszL m) ++ F) x.1 = ((y - k : Nat) : Int) := by
  have h1 : ((L.drop k).take n1)[y - k]? = some x := by
    rw [List.getElem?_take, if_pos hn, List.getElem?_drop, show k + (y - k) = y from by omega]
    exact hy
  have h2 : NDK ((L.drop k).take n1) := by
    unfold NDK at h ⊢
    rw [List.map_take, List.map_drop]
    exact (h.sublist (List.drop_sublist _ _)).sublist (List.take_sublist _ _)
  have h3 := ffst_is h2 h1
  rw [ffst_app (by rw [ffst_rsz, h3]; omega), ffst_rsz, h3]
theorem find_at {L : List LN} {y j : Nat} {x : LN} (h : NDK L) (hy : L[y]? = some x) (hj : j ≤ y) : ffst (L.drop j) x.1 = (y : Int) - (j : Int) := by
  have h1 : (L.drop j)[y - j]? = some x := by rw [List.getElem?_drop, show j + (y - j) = y from by omega]; exact hy
  rw [ffst_is (ndk_drop h j) h1]
  omega
def len3 (b : Nat) (w : World) : Nat := match w.cell? ⟨b, 3, none⟩ with | some (.slice _ n _) => n | _ => 0
theorem len3_is {b T n p : Nat} {a : Option Addr} {v0 v1 v2 : Value} {l : List Value} (hs : sat W (cel b T (v0 :: v1 :: v2 :: .slice a n p :: l) :: H) w) : len3 b w = n := by
  unfold len3
  rw [hs.cel_cell (i := 3) rfl]
theorem dfind60o {d v n p cols : Nat} {a : Option Addr} {keeps : Bool} {top bot id : Int} {ps : List PL} {L : List LN} (HO : Hid (ps.map PL.ln = L ∧ ps.length = n)) (h0 : 0 < n) (h5 : n ≤ 512) (hs : sat W (cel d 85 [.pointer (some ⟨v, 0, none⟩), .bool keeps, .int .i64 cols, .slice a n p, .int .i64 top, .int .i64 bot] :: own 93 2 (.slice a n p) n (lvs ps).flatten :: H) w) :
    Calls Try.prog 60 #[.pointer (some ⟨d, 0, none⟩), .int .i64 id] w fun e w' => e = .returned (.int .i64 (ffst L id)) ∧ sat W (cel d 85 [.pointer (some ⟨v, 0, none⟩), .bool keeps, .int .i64 cols, .slice a n p, .int .i64 top, .int .i64 bot] :: own 93 2 (.slice a n p) n (lvs ps).flatten :: H) w' := by
  obtain ⟨g, rfl⟩ := own_ptr h0 hs.b1
  obtain ⟨F, hF⟩ : ∃ F, ffst L id = F := ⟨_, rfl⟩
  have HF := Lib.hid hF
  have hn63 : (n : Int) ≤ 1000 := by omega
  rw [HF.out]
  clear hF h5
  go_enter Try.func60, Try.ntmps60
  go_wp2_with fail
  go_loopw [5] (fun i wx => ∃ i0 : Nat, i0 ≤ n ∧ i = .int .i64 (i0 : Int) ∧ Hid (∀ (j : Nat) (y : LN), j < i0 → L[j]? = some y → y.1 ≠ id) ∧ sat W (cel d 85 [.pointer (some ⟨v, 0, none⟩), .bool keeps, .int .i64 cols, .slice (some ⟨g, 0, none⟩) n p, .int .i64 top, .int .i64 bot] :: own 93 2 (.slice (some ⟨g, 0, none⟩) n p) n (lvs ps).flatten :: H) wx) (fun i _ => ((n : Int) - intOf i).toNat)
  case atStart => exact ⟨0, Nat.zero_le _, rfl, Lib.hid (fun j y hj => absurd hj (by omega)), hs⟩
  case round =>
    clear hs
    obtain ⟨i0, hi, rfl, HJ, hs⟩ := hrel
    by_cases hin : i0 < n
    · have hin2 : (i0 : Int) < (n : Int) := by omega
      obtain ⟨⟨xid, xb, xl⟩, hx⟩ : ∃ x, ps[i0]? = some x := ⟨_, List.getElem?_eq_getElem (by rw [HO.out.2]; exact hin)⟩
      have hx2 : L[i0]? = some (xid, xl) := by rw [← HO.out.1, List.getElem?_map, hx]; rfl
      have HX0 := Lib.hid (lvs_at hx).1
      have HX2 := Lib.hid hx2
      clear hx hx2
      by_cases hq : xid = id
      · subst hq
        have HE := Lib.hid (ffst_hit HJ.out HX2.out rfl)
        go_wp2_with (((with_reducible refine isl ?_); first | ((with_reducible apply ldo hs.b1); exact rfl; exact rfl; exact rfl; exact HX0.out; exact one3) | ((with_reducible apply ldx); exact rfl; exact rfl; exact rfl; (exact hs.b0); exact rfl; kernel_rfl)))
        go_ret
        exact ⟨by rw [← HF.out, HE.out]; rfl, by refine sb_from ?_ hs; repeat constructor⟩
      · go_wp2_with (((with_reducible refine isl ?_); first | ((with_reducible apply ldo hs.b1); exact rfl; exact rfl; exact rfl; exact HX0.out; exact one3) | ((with_reducible apply ldx); exact rfl; exact rfl; exact rfl; (exact hs.b0); exact rfl; kernel_rfl)))
        go_roundw
        case rel => exact ⟨i0 + 1, by omega, by go_num, Lib.hid (fun j y hj hy => by
          by_cases hji : j = i0
          · subst hji
            rw [HX2.out] at hy
            cases hy
            exact hq
          · exact HJ.out j y (by omega) hy), by refine sb_from ?_ hs; repeat constructor⟩
        case measure => simp [intOf]; omega
    · have hge : ¬ (i0 : Int) < (n : Int) := by omega
      obtain rfl : i0 = n := by omega
      have HE : Hid (F = -1) := Lib.hid (by
        rw [← HF.out]
        refine ffst_none fun j y hy => HJ.out j y ?_ hy
        have h1 := (List.getElem?_eq_some_iff.1 hy).1
        rw [← HO.out.1, List.length_map, HO.out.2] at h1
        exact h1)
      clear hin
      go_wp2_with (((with_reducible refine isl ?_); first | ((with_reducible apply ldx); exact rfl; exact rfl; exact rfl; (exact hs.b0); exact rfl; kernel_rfl)))
      go_ret
      exact ⟨by rw [HE.out]; rfl, by refine sb_from ?_ hs; repeat constructor⟩
theorem may33 {x : Int} {b : Bool} (hb : Hid (decide (1 ≤ x ∧ x ≤ 512) = b)) (hs : sat W H w) : Calls Try.prog 33 #[.int .i64 x] w fun e w' => e = .returned (.bool b) ∧ sat W H w' := by
  rw [← hb.out]
  exact may19 hs
set_option maxRecDepth 20000 in
theorem dresize55_no {d v N cols : Nat} {keeps : Bool} {top bot rows c2 y : Int} {L : List LN} (hn : L.length = N) (h : ¬ ((1 ≤ rows ∧ rows ≤ 512) ∧ (1 ≤ c2 ∧ c2 ≤ 512) ∧ 0 ≤ y ∧ y < (N : Int)))
    (hs : sat W (dcP d v ⟨keeps, cols, top, bot, L⟩ :: H) w) :
    Calls Try.prog 55 #[.pointer (some ⟨d, 0, none⟩), .int .i64 rows, .int .i64 c2, .int .i64 y] w fun e w' => e = .returned (.tuple #[.int .i64 0, .int .i64 2]) ∧ sat W (dcP d v ⟨keeps, cols, top, bot, L⟩ :: H) w' := by
  obtain ⟨ps, a, p, HO, hs⟩ := dc_open hn hs
  clear hn
  by_cases h1 : 1 ≤ rows ∧ rows ≤ 512
  · have H1 := Lib.hid (show decide (1 ≤ rows ∧ rows ≤ 512) = true from decide_eq_true h1)
    by_cases h2 : 1 ≤ c2 ∧ c2 ≤ 512
    · have H2 := Lib.hid (show decide (1 ≤ c2 ∧ c2 ≤ 512) = true from decide_eq_true h2)
      by_cases h3 : y < 0
      · have g1 : decide (y < 0) = true := decide_eq_true h3
        clear h h1 h2 h3
        go_enter Try.func55, Try.ntmps55
        go_wp2_with ((go_at_call 33; (first | refine (may33 (x := rows) H1 hs).mono ?_ | refine (may33 (x := c2) H2 hs).mono ?_); clear hs; rintro e w ⟨rfl, hs⟩))
        refine end_ret rfl (results_tmp2 rfl _ _ _) ⟨rfl, dc_close HO hs⟩
      · have g1 : decide (y < 0) = false := decide_eq_false h3
        have g2 : decide ((N : Int) ≤ y) = true := decide_eq_true (by omega)
        clear h h1 h2 h3
        go_enter Try.func55, Try.ntmps55
        go_wp2_with (first | (go_at_call 33; (first | refine (may33 (x := rows) H1 hs).mono ?_ | refine (may33 (x := c2) H2 hs).mono ?_); clear hs; rintro e w ⟨rfl, hs⟩) | ((with_reducible refine isl ?_); first | ((with_reducible apply ldx); exact rfl; exact rfl; exact rfl; (exact hs.b0); exact rfl; kernel_rfl)))
        refine end_ret rfl (results_tmp2 rfl _ _ _) ⟨rfl, dc_close HO hs⟩
    · have H2 := Lib.hid (show decide (1 ≤ c2 ∧ c2 ≤ 512) = false from decide_eq_false h2)
      clear h h1 h2
      go_enter Try.func55, Try.ntmps55
      go_wp2_with ((go_at_call 33; (first | refine (may33 (x := rows) H1 hs).mono ?_ | refine (may33 (x := c2) H2 hs).mono ?_); clear hs; rintro e w ⟨rfl, hs⟩))
      refine end_ret rfl (results_tmp2 rfl _ _ _) ⟨rfl, dc_close HO hs⟩
  · have H1 := Lib.hid (show decide (1 ≤ rows ∧ rows ≤ 512) = false from decide_eq_false h1)
    have H2 : Hid True := Lib.hid trivial
    clear h h1
    go_enter Try.func55, Try.ntmps55
    go_wp2_with ((go_at_call 33; (refine (may33 (x := rows) H1 hs).mono ?_); clear hs; rintro e w ⟨rfl, hs⟩))
    refine end_ret rfl (results_tmp2 rfl _ _ _) ⟨rfl, dc_close HO hs⟩
set_option maxHeartbeats 4000000 in
set_option maxRecDepth 20000 in
theorem dresize55_true {d v N cols most rows c2 y k n1 m : Nat} {top bot nx : Int} {L SL : List LN} (hn : L.length = N) (hN : N ≤ 512) (ok : LOK L) (idk : IDK nx L) (hnd : NDK L) (r0 : 1 ≤ rows) (r1 : rows ≤ 512) (c0 : 1 ≤ c2) (c1 : c2 ≤ 512) (hy : y < N) (hk : k = y + 1 - rows) (h1 : n1 = min rows (N - k)) (hm : m = rows - n1) (hnx : 0 < nx) (hnb : nx + 512 ≤ 1000000) (hsl : SL.length ≤ most) (hmo : most ≤ 10000)
    (hs : sat W (dcP d v ⟨true, cols, top, bot, L⟩ :: dsP v nx most SL :: H) w) :
    Calls Try.prog 55 #[.pointer (some ⟨d, 0, none⟩), .int .i64 (rows : Int), .int .i64 (c2 : Int), .int .i64 (y : Int)] w fun e w' => e = .returned (.tuple #[.int .i64 ((y - k : Nat) : Int), .int .i64 0]) ∧ sat W (dcP d v ⟨true, c2, 0, (rows : Int) - 1, ((L.drop k).take n1).map (rszL c2) ++ frL m nx (frC c2 At.z)⟩ :: dsP v (nx + m) most (pushs most SL (L.take k)) :: H) w' := by
  have h0 : 0 < N := by omega
  obtain ⟨ps, a, p0, HO, hs⟩ := dc_open hn hs
  obtain ⟨g0, rfl⟩ := own_ptr h0 hs.b1
  have H1 := Lib.hid (show decide (1 ≤ (rows : Int) ∧ (rows : Int) ≤ 512) = true from decide_eq_true (by omega))
  have H2 := Lib.hid (show decide (1 ≤ (c2 : Int) ∧ (c2 : Int) ≤ 512) = true from decide_eq_true (by omega))
  have g1 : decide ((y : Int) < 0) = false := decide_eq_false (by omega)
  have g2 : decide ((N : Int) ≤ (y : Int)) = false := decide_eq_false (by omega)
  have HK := Lib.hid (And.intro ok (And.intro idk (And.intro hnd (And.intro hsl hmo))))
  have HB := Lib.hid (And.intro hN (And.intro r1 (And.intro c1 (And.intro hnb (And.intro hmo (And.intro hk (And.intro h1 (And.intro hm hnx))))))))
  obtain ⟨⟨yid, yb, yl⟩, hx⟩ : ∃ x, ps[y]? = some x := ⟨_, List.getElem?_eq_getElem (by rw [HO.out.2]; exact hy)⟩
  have HY : Hid (L[y]? = some (yid, yl)) := Lib.hid (by rw [← HO.out.1, List.getElem?_map, hx]; rfl)
  have HX0 := Lib.hid (lvs_at hx).1
  have hy5 : (y : Int) < (N : Int) := by omega
  clear ok idk hnd hk h1 hm hx hsl hmo hnx hnb hN r1 c1
  go_enter Try.func55, Try.ntmps55
  go_upto_region 3 with (first | (go_at_call 33; (first | refine (may33 (x := (rows : Int)) H1 hs).mono ?_ | refine (may33 (x := (c2 : Int)) H2 hs).mono ?_); clear hs; rintro e w ⟨rfl, hs⟩) | ((with_reducible refine isl ?_); first | ((with_reducible apply ldx); exact rfl; exact rfl; exact rfl; (exact hs.b0); exact rfl; kernel_rfl)))
  go_wp2_with (((with_reducible refine isl ?_); first | ((with_reducible apply ldo hs.b1); exact rfl; exact rfl; exact rfl; exact HX0.out; exact one3) | ((with_reducible apply ldx); exact rfl; exact rfl; exact rfl; (exact hs.b0); exact rfl; kernel_rfl)))
  have HN := Lib.hid hn
  clear g1 g2 hn hy5 HX0
  go_loopw [] (fun wx => ∃ (j nj : Nat) (a : Option Addr) (p : Nat), j ≤ k ∧ Hid (nj = N - j ∧ k ≤ y) ∧ sat W (cel d 85 [.pointer (some ⟨v, 0, none⟩), .bool true, .int .i64 cols, .slice a nj p, .int .i64 top, .int .i64 bot] :: own 93 2 (.slice a nj p) nj (lvs (ps.drop j)).flatten :: lrw 100 (ps.drop j) :: dsP v nx most (pushs most SL (L.take j)) :: H) wx) (fun wx => len3 d wx)
  case atStart => exact ⟨0, N, _, _, Nat.zero_le _, Lib.hid ⟨rfl, by have := HB.out.2.2.2.2.2.1; omega⟩, by rw [List.drop_zero]; rw [List.take_zero, show pushs most SL [] = SL from by unfold pushs; rfl]; refine sb_from ?_ hs; repeat constructor⟩
  case round =>
    clear hs
    obtain ⟨j, nj, a, p, hjk, HNJ, hs⟩ := hrel
    have hnj : 0 < nj := by have := HNJ.out; omega
    obtain ⟨g, rfl⟩ := own_ptr hnj hs.b1
    obtain ⟨hnp, hpm⟩ := hs.b1.own_len
    have hp63 : (p : Int) ≤ 9223372036854775807 := by unfold maxLen at hpm; omega
    have HLN : Hid (len3 d wr = nj) := Lib.hid (len3_is hs)
    have hn5 : nj ≤ 512 := by have := HNJ.out; have := HB.out.1; omega
    have HOJ : Hid ((ps.drop j).map PL.ln = L.drop j ∧ (ps.drop j).length = nj) := Lib.hid ⟨by rw [List.map_drop, HO.out.1], by rw [List.length_drop, HO.out.2, HNJ.out.1]⟩
    have HF := Lib.hid (find_at HK.out.2.2.1 HY.out (by have := HNJ.out.2; omega : j ≤ y))
    simp only at HF
    obtain ⟨pj, hpj⟩ : ∃ pj, ps.drop j = pj := ⟨_, rfl⟩
    have HPJ := Lib.hid hpj
    rw [hpj] at hs HOJ
    clear hpj hpm
    by_cases hjk2 : j < k
    · have q1 : (rows : Int) < (nj : Int) := by have := HNJ.out; have := HB.out.2.2.2.2.2.1; omega
      have q2 : decide ((rows : Int) ≤ (y : Int) - (j : Int)) = true := decide_eq_true (by have := HB.out.2.2.2.2.2.1; omega)
      have q3 : decide ((rows : Int) < (nj : Int)) = true := decide_eq_true q1
      have y63 : (y : Int) ≤ 512 := by have := HB.out.1; omega
      obtain ⟨⟨xid, xb, xl⟩, hx⟩ : ∃ x, pj[0]? = some x := ⟨_, List.getElem?_eq_getElem (by rw [HOJ.out.2]; exact hnj)⟩
      have hx2 : (L.drop j)[0]? = some (xid, xl) := by rw [← HOJ.out.1, List.getElem?_map, hx]; rfl
      have HX0 := Lib.hid (lvs_at hx).1
      have HX1 := Lib.hid (lvs_at hx).2
      have hx3 : L[j]? = some (xid, xl) := by rw [List.getElem?_drop, Nat.add_zero] at hx2; exact hx2
      have hmem : (xid, xl) ∈ L := List.mem_of_getElem? hx3
      obtain ⟨m0, m1, m2⟩ := HK.out.1 _ hmem
      have HID := Lib.hid (HK.out.2.1 _ hmem)
      simp only at m0 m1 m2 HID
      obtain ⟨n0, hn0⟩ : ∃ n0, xl.length = n0 := ⟨_, rfl⟩
      rw [hn0] at m0 m1
      have HLL := Lib.hid hn0
      have HOK := Lib.hid m2
      have HXX := Lib.hid hx
      have HPU := Lib.hid (pushs_succ (most := most) (SL := SL) hx3)
      have HPL := Lib.hid (pushs_le (most := most) (L.take j) SL HK.out.2.2.2.1)
      have HDR : Hid (pj.drop 1 = ps.drop (j + 1)) := Lib.hid (by rw [← HPJ.out, List.drop_drop])
      clear hx hx2 hx3 hmem m2 hn0
      go_upto_region 6 with (first | (go_at_call 60; refine (dfind60o (id := yid) HOJ hnj hn5 (by (apply sk_from (hs := hs); repeat constructor))).mono ?_; clear hs; rintro e w ⟨rfl, hs⟩; rw [HF.out]) | ((with_reducible refine isl ?_); first | ((with_reducible apply ldx); exact rfl; exact rfl; exact rfl; (exact hs.b0); exact rfl; kernel_rfl)))
      have hs1 := lrw_at HXX.out (by refine sb_from ?_ hs; repeat constructor : sat W (lrw 100 pj :: cel d 85 [.pointer (some ⟨v, 0, none⟩), .bool true, .int .i64 cols, .slice (some ⟨g, 0, none⟩) nj p, .int .i64 top, .int .i64 bot] :: own 93 2 (.slice (some ⟨g, 0, none⟩) nj p) nj (lvs pj).flatten :: dsP v nx most (pushs most SL (L.take j)) :: H) w)
      clear hs
      have hs : sat W (cel d 85 [.pointer (some ⟨v, 0, none⟩), .bool true, .int .i64 cols, .slice (some ⟨g, 0, none⟩) nj p, .int .i64 top, .int .i64 bot] :: own 93 2 (.slice (some ⟨g, 0, none⟩) nj p) nj (lvs pj).flatten :: rwP 100 xb xl :: lrw 100 (pj.take 0) :: lrw 100 (pj.drop (0 + 1)) :: dsP v nx most (pushs most SL (L.take j)) :: H) w := by refine sb_from ?_ hs1; repeat constructor
      clear hs1
      refine region_mix [([0, 1, 2, 3, 4, 5, 6, 7, 8, 9, 10, 11, 12, 13, 14, 15, 16, 17], [18])] [] hs (fun _ h => by (show sat W [cel d 85 [.pointer (some ⟨v, 0, none⟩), .bool true, .int .i64 cols, .slice (some ⟨g, 0, none⟩) nj p, .int .i64 top, .int .i64 bot], own 93 2 (.slice (some ⟨g, 0, none⟩) nj p) nj (lvs pj).flatten] _; refine sb_from ?_ h; repeat constructor)) (by kernel_rfl) (by kernel_rfl) (fun _ _ _ _ _ h => h) ?_
      simp only [segs, nths, nth, List.append_nil, List.nil_append, List.cons_append, List.map_cons, List.map_nil]
      refine seg_reads (fun _ h => by (show sat W [cel d 85 [.pointer (some ⟨v, 0, none⟩), .bool true, .int .i64 cols, .slice (some ⟨g, 0, none⟩) nj p, .int .i64 top, .int .i64 bot], own 93 2 (.slice (some ⟨g, 0, none⟩) nj p) nj (lvs pj).flatten] _; refine sb_from ?_ h; repeat constructor)) ?_; intro X f hne hf hcl; (try simp only [Act.put, List.setIfInBounds_toArray, List.set_cons_succ, List.set_cons_zero]); (repeat ((first | ((with_reducible apply ldoq (fun x => (hf x).b1)); exact rfl; exact rfl; exact rfl; (first | exact HX0.out | exact HX1.out); kernel_rfl) | ((with_reducible apply ldqx); exact rfl; exact rfl; exact rfl; (exact fun x => (hf x).b0); exact rfl; kernel_rfl) | go_big_quiet_step (fail)); (try simp only [Act.put, List.setIfInBounds_toArray, List.set_cons_succ, List.set_cons_zero]))); refine wpQuiet_nil ?_; clear hcl hf hne hs f X; intro w hs
      go_wp2_with ((go_at_call 72; refine (rpush23 (b2 := xb) HLL.out m0 m1 HOK.out HID.out HPL.out HK.out.2.2.2.2 (by (apply sk_from (hs := hs); repeat constructor))).mono ?_; clear hs; rintro e w ⟨rfl, hs⟩; rw [← HPU.out] at hs))
      (refine seg_on hs (fun _ h => h) ?_ ?_)
      · exact fun _ h => by (show sat W [cel d 85 [.pointer (some ⟨v, 0, none⟩), .bool true, .int .i64 cols, .slice (some ⟨g, 0, none⟩) nj p, .int .i64 top, .int .i64 bot], own 93 2 (.slice (some ⟨g, 0, none⟩) nj p) nj (lvs pj).flatten] _; refine sb_from ?_ h; repeat constructor)
      clear hs; intro hs
      refine seg_last (fun _ h => by (show sat W [cel d 85 [.pointer (some ⟨v, 0, none⟩), .bool true, .int .i64 cols, .slice (some ⟨g, 0, none⟩) nj p, .int .i64 top, .int .i64 bot], own 93 2 (.slice (some ⟨g, 0, none⟩) nj p) nj (lvs pj).flatten] _; refine sb_from ?_ h; repeat constructor)) ?_; intro X f hne hf hcl; (try simp only [Act.put, List.setIfInBounds_toArray, List.set_cons_succ, List.set_cons_zero]); (repeat ((fail); (try simp only [Act.put, List.setIfInBounds_toArray, List.set_cons_succ, List.set_cons_zero]))); refine wpQuiet_nil ?_; clear hcl hf hne hs f X; intro w hs
      have h9 := lrw_put (l := pj) (i := 0) (y := ⟨xid, xb, xl⟩) (List.getElem?_eq_some_iff.1 HXX.out).1 (by refine sb_from ?_ hs; repeat constructor : sat W (rwP 100 xb xl :: lrw 100 (pj.take 0) :: lrw 100 (pj.drop (0 + 1)) :: cel d 85 [.pointer (some ⟨v, 0, none⟩), .bool true, .int .i64 cols, .slice (some ⟨g, 0, none⟩) nj p, .int .i64 top, .int .i64 bot] :: own 93 2 (.slice (some ⟨g, 0, none⟩) nj p) nj (lvs pj).flatten :: dsP v nx most (pushs most SL (L.take (j + 1))) :: H) w)
      rw [set_same HXX.out] at h9
      clear hs
      have hs : sat W (cel d 85 [.pointer (some ⟨v, 0, none⟩), .bool true, .int .i64 cols, .slice (some ⟨g, 0, none⟩) nj p, .int .i64 top, .int .i64 bot] :: own 93 2 (.slice (some ⟨g, 0, none⟩) nj p) nj (lvs pj).flatten :: lrw 100 pj :: dsP v nx most (pushs most SL (L.take (j + 1))) :: H) w := by refine sb_from ?_ h9; repeat constructor
      clear h9
      have HR1 : Hid ((lvs (pj.drop 1)).flatten.length = (nj - 1) * 2) := Lib.hid (by rw [lvs_size, List.length_drop, HOJ.out.2])
      have hp1 : ¬ p = 1 := by omega
      go_wp2_with (first | ((apply apx0 hs.b0; exact rfl; exact rfl; exact rfl; exact rfl; exact slty83; (exact rds_tail (f := 1) hs.b2); exact HR1.out; exact lvs_one; omega; (unfold maxLen; omega); clear hs; intro a5 c5 w hs)) | ((with_reducible refine isl ?_); first | ((with_reducible apply ldx); exact rfl; exact rfl; exact rfl; (exact hs.b1); exact rfl; kernel_rfl) | ((with_reducible apply stx); exact rfl; exact rfl; exact rfl; (exact hs.b1); exact rfl; exact rfl; exact rfl; kernel_rfl; exact rfl; clear hs; intro w hs) | ((with_reducible refine wrap hs ?_); clear hs; intro w hs)))
      go_roundw
      case rel =>
        have h9 := lrw_drop 1 (by refine sb_from ?_ hs; repeat constructor : sat W (lrw 100 pj :: cel d 85 [.pointer (some ⟨v, 0, none⟩), .bool true, .int .i64 cols, .slice a5 (nj - 1) c5, .int .i64 top, .int .i64 bot] :: own 93 2 (.slice a5 (nj - 1) c5) (nj - 1) (lvs (pj.drop 1)).flatten :: dsP v nx most (pushs most SL (L.take (j + 1))) :: H) w)
        rw [HDR.out] at h9
        exact ⟨j + 1, nj - 1, a5, c5, by omega, Lib.hid (by have := HNJ.out; omega), by refine sb_from ?_ h9; repeat constructor⟩
      case measure => rw [HLN.out, len3_is (by refine sb_from ?_ hs; repeat constructor)]; omega
    · obtain rfl : j = k := by omega
      have q2 : decide ((rows : Int) ≤ (y : Int) - (j : Int)) = false := decide_eq_false (by have := HB.out.2.2.2.2.2.1; omega)
      have y63 : (y : Int) ≤ 512 := by have := HB.out.1; omega
      clear hjk2 hjk
      have HN1 : Hid (n1 ≤ nj ∧ 0 < n1 ∧ n1 ≤ 512 ∧ n1 ≤ rows ∧ (nj ≤ rows → n1 = nj) ∧ (rows < nj → n1 = rows)) := Lib.hid (by have := HB.out; have := HNJ.out; omega)
      have HO1 : Hid ((pj.take n1).map PL.ln = (L.drop j).take n1 ∧ (pj.take n1).length = n1) := Lib.hid ⟨by rw [List.map_take, HOJ.out.1], by rw [List.length_take, HOJ.out.2]; have := HN1.out.1; omega⟩
      have HOK : Hid (LOK ((L.drop j).take n1)) := Lib.hid fun x hx => HK.out.1 x (List.mem_of_mem_drop (List.mem_of_mem_take hx))
      have HRR : Hid ((lvs (pj.take n1)).flatten.length = n1 * 2) := Lib.hid (by rw [lvs_size, HO1.out.2])
      by_cases hq : rows < nj
      case' pos =>
        have q1 : (rows : Int) < (nj : Int) := by omega
        have q3 : decide ((rows : Int) < (nj : Int)) = true := decide_eq_true q1
        have HER := Lib.hid (HN1.out.2.2.2.2.2 hq)
        have q4 : (rows : Int) ≤ (nj : Int) := by omega
        have q5 : (rows : Int) ≤ (p : Int) := by omega
        have HRR3 : Hid ((lvs (pj.take rows)).flatten.length = rows * 2) := Lib.hid (by rw [← HER.out]; exact HRR.out)
        go_upto_region 10 with (first | (go_at_call 60; refine (dfind60o (id := yid) HOJ hnj hn5 (by (apply sk_from (hs := hs); repeat constructor))).mono ?_; clear hs; rintro e w ⟨rfl, hs⟩; rw [HF.out]) | ((apply apx0 hs.b0; exact rfl; exact rfl; exact rfl; exact rfl; exact slty83; (exact rds_head (f := rows) (by omega) hs.b2); exact HRR3.out; exact lvs_one; omega; (unfold maxLen; omega); clear hs; intro a5 c5 w hs)) | ((with_reducible refine isl ?_); first | ((with_reducible apply ldx); exact rfl; exact rfl; exact rfl; (first | exact hs.b0 | exact hs.b1); exact rfl; kernel_rfl) | ((with_reducible apply stx); exact rfl; exact rfl; exact rfl; (exact hs.b1); exact rfl; exact rfl; exact rfl; kernel_rfl; exact rfl; clear hs; intro w hs) | ((with_reducible refine wrap hs ?_); clear hs; intro w hs)))
        rw [← HER.out] at hs
        have h9 := lrw_take n1 (by refine sb_from ?_ hs; repeat constructor : sat W (lrw 100 pj :: cel d 85 [.pointer (some ⟨v, 0, none⟩), .bool true, .int .i64 cols, .slice a5 n1 c5, .int .i64 top, .int .i64 bot] :: own 93 2 (.slice a5 n1 c5) n1 (lvs (pj.take n1)).flatten :: dsP v nx most (pushs most SL (L.take j)) :: H) w)
        have hs1 : ∃ (a5 : Option Addr) (c5 : Nat), sat W (cel d 85 [.pointer (some ⟨v, 0, none⟩), .bool true, .int .i64 cols, .slice a5 n1 c5, .int .i64 top, .int .i64 bot] :: own 93 2 (.slice a5 n1 c5) n1 (lvs (pj.take n1)).flatten :: lrw 100 (pj.take n1) :: dsP v nx most (pushs most SL (L.take j)) :: H) w := ⟨a5, c5, by refine sb_from ?_ h9; repeat constructor⟩
        clear hs h9 q1 q3 q4 q5
      case' neg =>
        have q1 : ¬ (rows : Int) < (nj : Int) := by omega
        have q3 : decide ((rows : Int) < (nj : Int)) = false := decide_eq_false q1
        obtain rfl : n1 = nj := HN1.out.2.2.2.2.1 (by omega)
        go_upto_region 10 with (((with_reducible refine isl ?_); first | ((with_reducible apply ldx); exact rfl; exact rfl; exact rfl; (exact hs.b0); exact rfl; kernel_rfl)))
        have e8 : pj.take n1 = pj := List.take_of_length_le (by rw [HOJ.out.2]; exact Nat.le_refl _)
        have hs1 : ∃ (a5 : Option Addr) (c5 : Nat), sat W (cel d 85 [.pointer (some ⟨v, 0, none⟩), .bool true, .int .i64 cols, .slice a5 n1 c5, .int .i64 top, .int .i64 bot] :: own 93 2 (.slice a5 n1 c5) n1 (lvs (pj.take n1)).flatten :: lrw 100 (pj.take n1) :: dsP v nx most (pushs most SL (L.take j)) :: H) wr := ⟨_, p, by rw [e8]; refine sb_from ?_ hs; repeat constructor⟩
        clear hs e8 q1 q3
        revert hs1
        generalize wr = w
        intro hs1
      all_goals
        obtain ⟨a5, c5, hs⟩ := hs1
        obtain ⟨g5, rfl⟩ := own_ptr HN1.out.2.1 hs.b1
        generalize pj.take n1 = p1 at hs HO1 HRR
        have r63 : (n1 : Int) ≤ 512 := by have := HN1.out; omega
        go_wp2_with (fail)
        go_loopw [11] (fun i wx => ∃ i0 : Nat, i0 ≤ n1 ∧ i = .int .i64 (i0 : Int) ∧ sat W (cel d 85 [.pointer (some ⟨v, 0, none⟩), .bool true, .int .i64 cols, .slice (some ⟨g5, 0, none⟩) n1 c5, .int .i64 top, .int .i64 bot] :: own 93 2 (.slice (some ⟨g5, 0, none⟩) n1 c5) n1 (lvs p1).flatten :: lrw 100 ((p1.take i0).map (rsz c2) ++ p1.drop i0) :: dsP v nx most (pushs most SL (L.take j)) :: H) wx) (fun i _ => ((n1 : Int) - intOf i).toNat)
        case atStart => exact ⟨0, Nat.zero_le _, rfl, by refine sb_from ?_ hs; repeat constructor⟩
        case round =>
          clear hs
          obtain ⟨i0, hi, rfl, hs⟩ := hrel
          by_cases hin : i0 < n1
          · have hin2 : (i0 : Int) < (n1 : Int) := by omega
            obtain ⟨⟨xid, xb, xl⟩, hx⟩ : ∃ x, p1[i0]? = some x := ⟨_, List.getElem?_eq_getElem (by rw [HO1.out.2]; exact hin)⟩
            have hx2 : ((L.drop j).take n1)[i0]? = some (xid, xl) := by rw [← HO1.out.1, List.getElem?_map, hx]; rfl
            obtain ⟨m0, m1, m2⟩ := HOK.out _ (List.mem_of_getElem? hx2)
            simp only at m0 m1 m2
            obtain ⟨mm, hmm⟩ : ∃ mm, xl.length = mm := ⟨_, rfl⟩
            rw [hmm] at m0 m1
            have HLL := Lib.hid hmm
            have HRE := Lib.hid (resize_eq m2 c2).1
            have HX1 := Lib.hid (lvs_at hx).2
            have HXX := Lib.hid hx
            have hs1 := lrw_at (rsz_at (m := c2) hx) hs.b2
            clear hx hx2 hmm hs m2
            have hs : sat W (cel d 85 [.pointer (some ⟨v, 0, none⟩), .bool true, .int .i64 cols, .slice (some ⟨g5, 0, none⟩) n1 c5, .int .i64 top, .int .i64 bot] :: own 93 2 (.slice (some ⟨g5, 0, none⟩) n1 c5) n1 (lvs p1).flatten :: rwP 100 xb xl :: lrw 100 (((p1.take i0).map (rsz c2) ++ p1.drop i0).take i0) :: lrw 100 (((p1.take i0).map (rsz c2) ++ p1.drop i0).drop (i0 + 1)) :: dsP v nx most (pushs most SL (L.take j)) :: H) wr := by refine sb_from ?_ hs1; repeat constructor
            clear hs1
            go_wp2_with (first | (go_at_call 73; refine (resize38_ok HLL.out m0 (by omega) c0 HB.out.2.2.1 (by (apply sk_from (hs := hs); repeat constructor))).mono ?_; clear hs; rintro e w ⟨rfl, hs⟩; rw [← HRE.out] at hs) | ((with_reducible refine isl ?_); first | ((with_reducible apply ldo hs.b1); exact rfl; exact rfl; exact rfl; exact HX1.out; exact one91) | ((with_reducible apply ldx); exact rfl; exact rfl; exact rfl; (exact hs.b0); exact rfl; kernel_rfl)))
            go_roundw
            case rel =>
              refine ⟨i0 + 1, by omega, by go_num, ?_⟩
              have h4 := lrw_put (l := (p1.take i0).map (rsz c2) ++ p1.drop i0) (i := i0) (y := rsz c2 ⟨xid, xb, xl⟩) (List.getElem?_eq_some_iff.1 (rsz_at (m := c2) HXX.out)).1 (by refine sb_from ?_ hs; repeat constructor : sat W (rwP 100 xb (resG xl c2) :: lrw 100 (((p1.take i0).map (rsz c2) ++ p1.drop i0).take i0) :: lrw 100 (((p1.take i0).map (rsz c2) ++ p1.drop i0).drop (i0 + 1)) :: cel d 85 [.pointer (some ⟨v, 0, none⟩), .bool true, .int .i64 cols, .slice (some ⟨g5, 0, none⟩) n1 c5, .int .i64 top, .int .i64 bot] :: own 93 2 (.slice (some ⟨g5, 0, none⟩) n1 c5) n1 (lvs p1).flatten :: dsP v nx most (pushs most SL (L.take j)) :: H) w)
              rw [rsz_set HXX.out] at h4
              refine sb_from ?_ h4; repeat constructor
            case measure => simp [intOf]; omega
          · obtain rfl : i0 = n1 := by omega
            have HP2 : Hid ((p1.take i0).map (rsz c2) ++ p1.drop i0 = p1.map (rsz c2)) := Lib.hid (by rw [List.take_of_length_le (by rw [HO1.out.2]; exact Nat.le_refl _), List.drop_of_length_le (by rw [HO1.out.2]; exact Nat.le_refl _), List.append_nil])
            rw [HP2.out] at hs
            have e7 : (rows : Int) - (i0 : Int) = ((m : Nat) : Int) := by have := HB.out; have := HN1.out; omega
            have HM5 : Hid (m ≤ 512 ∧ i0 + m ≤ 512 ∧ i0 + m = rows) := Lib.hid (by have := HB.out; have := HN1.out; omega)
            have HLV : Hid (lvs (p1.map (rsz c2)) = lvs p1) := Lib.hid (by have h := lvs_rsz c2 i0 p1; rw [HP2.out] at h; exact h)
            have hm5 : (m : Int) ≤ 512 := by have := HM5.out; omega
            clear hin
            go_upto_region 15 with (((with_reducible refine isl ?_); first | ((with_reducible apply ldx); exact rfl; exact rfl; exact rfl; (exact hs.b0); exact rfl; kernel_rfl) | ((with_reducible apply stx); exact rfl; exact rfl; exact rfl; (exact hs.b0); exact rfl; exact rfl; exact rfl; kernel_rfl; exact rfl; clear hs; intro w hs)))
            refine L_begin 20 20 [cel d 85 [.pointer (some ⟨v, 0, none⟩), .bool true, .int .i64 c2, .slice (some ⟨g5, 0, none⟩) i0 c5, .int .i64 top, .int .i64 bot]] [cel d 85 [.pointer (some ⟨v, 0, none⟩), .bool true, .int .i64 c2, .slice (some ⟨g5, 0, none⟩) i0 c5, .int .i64 top, .int .i64 bot]] hs (fun _ h => by (refine sb_from ?_ h; repeat constructor)) (fun _ h => by (refine sb_from ?_ h; repeat constructor)) (by kernel_rfl) ?_; clear hs; intro w hs hd
            refine L_reads2 [0, 2, 3, 4, 5, 7, 8, 9, 10, 11, 12, 13, 14, 15] #[true, false, true, true, true, true, false, true, true, true, true, true, true, true, true, true, false, false, false, false, false] (fuel := 7) hd (by kernel_rfl) (fun _ _ _ _ _ h => h) ?_; clear hd; intro X f hne hf hcl hd; simp only [nths, nth, List.append_nil, List.nil_append, List.cons_append]; (try simp only [Act.put, List.setIfInBounds_toArray, List.set_cons_succ, List.set_cons_zero]); (repeat ((first | ((with_reducible apply ldqx); exact rfl; exact rfl; exact rfl; (exact fun x => (hf x).b0); exact rfl; kernel_rfl) | go_big_quiet_step (fail)); (try simp only [Act.put, List.setIfInBounds_toArray, List.set_cons_succ, List.set_cons_zero]))); refine wpQuiet_nil ?_; clear hcl hf hne f X
            refine L_each [1] (by kernel_rfl) ⟨?_, trivial⟩
            simp only [nth]
            go_wp2_with (fail)
            (refine on_now hs.made ?_); clear hs; intro hs
            refine L_on [cel d 85 [.pointer (some ⟨v, 0, none⟩), .bool true, .int .i64 c2, .slice (some ⟨g5, 0, none⟩) i0 c5, .int .i64 top, .int .i64 bot]] [cel d 85 [.pointer (some ⟨v, 0, none⟩), .bool true, .int .i64 c2, .slice (some ⟨g5, 0, none⟩) i0 c5, .int .i64 top, .int .i64 bot]] #[true, true, true, true, true, true, false, true, true, true, true, true, true, true, true, true, false, false, false, false, false] (fuel := 6) hs (by kernel_rfl) (fun _ h => h) (fun _ h => h) (fun _ => by (refine sb_from ?_ hs; repeat constructor)) (fun _ => by (refine sb_from ?_ hs; repeat constructor)) ?_; clear hd hs; intro hd hs
            refine L_each [6] (by kernel_rfl) ⟨?_, trivial⟩
            simp only [nth]
            go_wp2_with ((apply apx0 hs.b0; exact rfl; exact rfl; exact rfl; exact rfl; exact slty83; (exact sat.own_rds hs.b2); exact HRR.out; exact lvs_one; omega; (unfold maxLen; omega); clear hs; intro a6 c6 w hs))
            (refine on_now hs ?_); clear hs; intro hs
            refine L_on [cel d 85 [.pointer (some ⟨v, 0, none⟩), .bool true, .int .i64 c2, .slice (some ⟨g5, 0, none⟩) i0 c5, .int .i64 top, .int .i64 bot]] [cel d 85 [.pointer (some ⟨v, 0, none⟩), .bool true, .int .i64 c2, .slice (some ⟨g5, 0, none⟩) i0 c5, .int .i64 top, .int .i64 bot]] #[true, true, true, true, true, true, true, true, true, true, true, true, true, true, true, true, false, false, false, false, false] (fuel := 5) hs (by kernel_rfl) (fun _ h => h) (fun _ h => h) (fun _ => by (refine sb_from ?_ hs; repeat constructor)) (fun _ => by (refine sb_from ?_ hs; repeat constructor)) ?_; clear hd hs; intro hd hs
            refine L_each [16] (by kernel_rfl) ⟨?_, trivial⟩
            simp only [nth]
            go_wp2_with (go_at_call 49; refine (dfresh49 (n := m) (cols := c2) (v := v) (most := most) (SL := (pushs most SL (L.take j))) (nx := nx) (at_ := At.z) HM5.out.1 c0 HB.out.2.2.1 HB.out.2.2.2.2.2.2.2.2 (by have h1 := HB.out; have h2 := HM5.out; omega) (by (apply sk_from (hs := hs); repeat constructor))).mono ?_; clear hs; rintro e w ⟨af, cf, rfl, hs⟩; obtain ⟨pf, hpf1, hpf2, hs⟩ := ln_open (frL_len _ _ _) hs; have HPF := Lib.hid (And.intro hpf1 hpf2); have HLF : Hid ((lvs pf).flatten.length = m * 2) := Lib.hid (by rw [lvs_size, hpf2]); clear hpf1 hpf2)
            (refine on_now hs ?_); clear hs; intro hs
            refine L_on [cel d 85 [.pointer (some ⟨v, 0, none⟩), .bool true, .int .i64 c2, .slice (some ⟨g5, 0, none⟩) i0 c5, .int .i64 top, .int .i64 bot]] [cel d 85 [.pointer (some ⟨v, 0, none⟩), .bool true, .int .i64 c2, .slice (some ⟨g5, 0, none⟩) i0 c5, .int .i64 top, .int .i64 bot]] #[true, true, true, true, true, true, true, true, true, true, true, true, true, true, true, true, true, false, false, false, false] (fuel := 4) hs (by kernel_rfl) (fun _ h => h) (fun _ h => h) (fun _ => by (refine sb_from ?_ hs; repeat constructor)) (fun _ => by (refine sb_from ?_ hs; repeat constructor)) ?_; clear hd hs; intro hd hs
            refine L_each [17] (by kernel_rfl) ⟨?_, trivial⟩
            simp only [nth]
            go_wp2_with ((apply apx hs.b4; exact rfl; exact rfl; exact rfl; exact rfl; exact slty83; (exact sat.own_rds hs.b0); exact HLF.out; exact lvs_one; (have h1 := HM5.out; omega); (have h1 := HM5.out; unfold maxLen; omega); clear hs; intro a7 c7 w hs))
            (refine on_now hs ?_); clear hs; intro hs
            refine L_on [cel d 85 [.pointer (some ⟨v, 0, none⟩), .bool true, .int .i64 c2, .slice (some ⟨g5, 0, none⟩) i0 c5, .int .i64 top, .int .i64 bot]] [cel d 85 [.pointer (some ⟨v, 0, none⟩), .bool true, .int .i64 c2, .slice (some ⟨g5, 0, none⟩) i0 c5, .int .i64 top, .int .i64 bot]] #[true, true, true, true, true, true, true, true, true, true, true, true, true, true, true, true, true, true, false, false, false] (fuel := 3) hs (by kernel_rfl) (fun _ h => h) (fun _ h => h) (fun _ => by (refine sb_from ?_ hs; repeat constructor)) (fun _ => by (refine sb_from ?_ hs; repeat constructor)) ?_; clear hd hs; intro hd hs
            refine L_each [18] (by kernel_rfl) ⟨?_, trivial⟩
            simp only [nth]
            go_wp2_with (fail)
            (refine on_now hs ?_); clear hs; intro hs
            refine L_on [cel d 85 [.pointer (some ⟨v, 0, none⟩), .bool true, .int .i64 c2, .slice (some ⟨g5, 0, none⟩) i0 c5, .int .i64 top, .int .i64 bot]] [cel d 85 [.pointer (some ⟨v, 0, none⟩), .bool true, .int .i64 c2, .slice (some ⟨g5, 0, none⟩) i0 c5, .int .i64 top, .int .i64 bot]] #[true, true, true, true, true, true, true, true, true, true, true, true, true, true, true, true, true, true, true, false, false] (fuel := 2) hs (by kernel_rfl) (fun _ h => h) (fun _ h => h) (fun _ => by (refine sb_from ?_ hs; repeat constructor)) (fun _ => by (refine sb_from ?_ hs; repeat constructor)) ?_; clear hd hs; intro hd hs
            refine L_reads2 [19] #[true, true, true, true, true, true, true, true, true, true, true, true, true, true, true, true, true, true, true, true, false] (fuel := 1) hd (by kernel_rfl) (fun _ _ _ _ _ h => h) ?_; clear hd; intro X f hne hf hcl hd; simp only [nths, nth, List.append_nil, List.nil_append, List.cons_append]; (try simp only [Act.put, List.setIfInBounds_toArray, List.set_cons_succ, List.set_cons_zero]); (repeat ((go_big_quiet_step (fail)); (try simp only [Act.put, List.setIfInBounds_toArray, List.set_cons_succ, List.set_cons_zero]))); refine wpQuiet_nil ?_; clear hcl hf hne f X
            refine L_each [20] (by kernel_rfl) ⟨?_, trivial⟩
            simp only [nth]
            go_wp2_with (((with_reducible refine isl ?_); first | ((with_reducible apply stx); exact rfl; exact rfl; exact rfl; (exact hs.b3); exact rfl; exact rfl; exact rfl; kernel_rfl; exact rfl; clear hs; intro w hs)))
            (refine on_now hs ?_); clear hs; intro hs
            refine L_on [cel d 85 [.pointer (some ⟨v, 0, none⟩), .bool true, .int .i64 c2, .slice (some ⟨g5, 0, none⟩) i0 c5, .int .i64 top, .int .i64 bot]] [cel d 85 [.pointer (some ⟨v, 0, none⟩), .bool true, .int .i64 c2, .slice (some ⟨g5, 0, none⟩) i0 c5, .int .i64 top, .int .i64 bot]] #[true, true, true, true, true, true, true, true, true, true, true, true, true, true, true, true, true, true, true, true, true] (fuel := 0) hs (by kernel_rfl) (fun _ h => h) (fun _ h => h) (fun e => absurd e (by decide)) (fun e => absurd e (by decide)) ?_; clear hd hs; intro hd hs
            refine L_done (by kernel_rfl) ?_; clear hd
            go_upto_region 17 with (((with_reducible refine isl ?_); first | ((with_reducible apply stx); exact rfl; exact rfl; exact rfl; (exact hs.b0); exact rfl; exact rfl; exact rfl; kernel_rfl; exact rfl; clear hs; intro w hs) | ((with_reducible apply stcx); exact rfl; exact rfl; exact rfl; (exact hs.b0); exact rfl; exact rfl; kernel_rfl; exact rfl; clear hs; intro w hs)))
            have hlv : (lvs p1).flatten ++ (lvs pf).flatten = (lvs (p1.map (rsz c2) ++ pf)).flatten := by rw [lvs_app, List.flatten_append, HLV.out]
            rw [hlv] at hs
            have h1 := lrw_app (by refine sb_from ?_ hs; repeat constructor : sat W (lrw 100 (p1.map (rsz c2)) :: lrw 100 pf :: cel d 85 [.pointer (some ⟨v, 0, none⟩), .bool true, .int .i64 c2, .slice a7 (i0 + m) c7, .int .i64 0, .int .i64 ((rows : Int) - 1)] :: own 93 2 (.slice a7 (i0 + m) c7) (i0 + m) (lvs (p1.map (rsz c2) ++ pf)).flatten :: dsP v (nx + m) most (pushs most SL (L.take j)) :: H) w)
            have HOF : Hid ((p1.map (rsz c2) ++ pf).map PL.ln = ((L.drop j).take i0).map (rszL c2) ++ frL m nx (frC c2 At.z) ∧ (p1.map (rsz c2) ++ pf).length = i0 + m) := Lib.hid ⟨by rw [List.map_append, rsz_map, HO1.out.1, HPF.out.1], by rw [List.length_append, List.length_map, HO1.out.2, HPF.out.2]⟩
            have hs2 := dc_close HOF (by refine sb_from ?_ h1; repeat constructor : sat W (cel d 85 [.pointer (some ⟨v, 0, none⟩), .bool true, .int .i64 c2, .slice a7 (i0 + m) c7, .int .i64 0, .int .i64 ((rows : Int) - 1)] :: own 93 2 (.slice a7 (i0 + m) c7) (i0 + m) (lvs (p1.map (rsz c2) ++ pf)).flatten :: lrw 100 (p1.map (rsz c2) ++ pf) :: dsP v (nx + m) most (pushs most SL (L.take j)) :: H) w)
            clear hs h1 hlv
            have hs := hs2
            clear hs2
            have HLL : Hid ((((L.drop j).take i0).map (rszL c2) ++ frL m nx (frC c2 At.z)).length = i0 + m) := Lib.hid (by rw [← HOF.out.1, List.length_map, HOF.out.2])
            have HFF : Hid (ffst (((L.drop j).take i0).map (rszL c2) ++ frL m nx (frC c2 At.z)) yid = ((y - j : Nat) : Int)) := Lib.hid (find_new HK.out.2.2.1 HY.out HNJ.out.2 (by have := HB.out; omega))
            obtain ⟨LF, hLF⟩ : ∃ LF, ((L.drop j).take i0).map (rszL c2) ++ frL m nx (frC c2 At.z) = LF := ⟨_, rfl⟩
            have HLE := Lib.hid hLF
            rw [hLF] at hs HLL HFF
            clear hLF
            go_wp2_with ((go_at_call 60; refine (dfind60 (id := yid) HLL.out (by have := HN1.out; omega) HM5.out.2.1 (by (apply sk_from (hs := hs); repeat constructor))).mono ?_; clear hs; rintro e w ⟨rfl, hs⟩; rw [HFF.out]))
            rw [← HLE.out] at hs
            refine end_ret rfl (results_tmp2 rfl _ _ _) ⟨rfl, by refine sb_from ?_ hs; repeat constructor⟩
set_option maxHeartbeats 4000000 in
set_option maxRecDepth 20000 in
theorem dresize55_false {d v N cols most rows c2 y k n1 m : Nat} {top bot nx : Int} {L SL : List LN} (hn : L.length = N) (hN : N ≤ 512) (ok : LOK L) (idk : IDK nx L) (hnd : NDK L) (r0 : 1 ≤ rows) (r1 : rows ≤ 512) (c0 : 1 ≤ c2) (c1 : c2 ≤ 512) (hy : y < N) (hk : k = y + 1 - rows) (h1 : n1 = min rows (N - k)) (hm : m = rows - n1) (hnx : 0 < nx) (hnb : nx + 512 ≤ 1000000) (hsl : SL.length ≤ most) (hmo : most ≤ 10000)
    (hs : sat W (dcP d v ⟨false, cols, top, bot, L⟩ :: dsP v nx most SL :: H) w) :
    Calls Try.prog 55 #[.pointer (some ⟨d, 0, none⟩), .int .i64 (rows : Int), .int .i64 (c2 : Int), .int .i64 (y : Int)] w fun e w' => e = .returned (.tuple #[.int .i64 ((y - k : Nat) : Int), .int .i64 0]) ∧ sat W (dcP d v ⟨false, c2, 0, (rows : Int) - 1, ((L.drop k).take n1).map (rszL c2) ++ frL m nx (frC c2 At.z)⟩ :: dsP v (nx + m) most SL :: H) w' := by
  have h0 : 0 < N := by omega
  obtain ⟨ps, a, p0, HO, hs⟩ := dc_open hn hs
  obtain ⟨g0, rfl⟩ := own_ptr h0 hs.b1
  have H1 := Lib.hid (show decide (1 ≤ (rows : Int) ∧ (rows : Int) ≤ 512) = true from decide_eq_true (by omega))
  have H2 := Lib.hid (show decide (1 ≤ (c2 : Int) ∧ (c2 : Int) ≤ 512) = true from decide_eq_true (by omega))
  have g1 : decide ((y : Int) < 0) = false := decide_eq_false (by omega)
  have g2 : decide ((N : Int) ≤ (y : Int)) = false := decide_eq_false (by omega)
  have HK := Lib.hid (And.intro ok (And.intro idk (And.intro hnd (And.intro hsl hmo))))
  have HB := Lib.hid (And.intro hN (And.intro r1 (And.intro c1 (And.intro hnb (And.intro hmo (And.intro hk (And.intro h1 (And.intro hm hnx))))))))
  obtain ⟨⟨yid, yb, yl⟩, hx⟩ : ∃ x, ps[y]? = some x := ⟨_, List.getElem?_eq_getElem (by rw [HO.out.2]; exact hy)⟩
  have HY : Hid (L[y]? = some (yid, yl)) := Lib.hid (by rw [← HO.out.1, List.getElem?_map, hx]; rfl)
  have HX0 := Lib.hid (lvs_at hx).1
  have hy5 : (y : Int) < (N : Int) := by omega
  clear ok idk hnd hk h1 hm hx hsl hmo hnx hnb hN r1 c1
  go_enter Try.func55, Try.ntmps55
  go_upto_region 3 with (first | (go_at_call 33; (first | refine (may33 (x := (rows : Int)) H1 hs).mono ?_ | refine (may33 (x := (c2 : Int)) H2 hs).mono ?_); clear hs; rintro e w ⟨rfl, hs⟩) | ((with_reducible refine isl ?_); first | ((with_reducible apply ldx); exact rfl; exact rfl; exact rfl; (exact hs.b0); exact rfl; kernel_rfl)))
  go_wp2_with (((with_reducible refine isl ?_); first | ((with_reducible apply ldo hs.b1); exact rfl; exact rfl; exact rfl; exact HX0.out; exact one3) | ((with_reducible apply ldx); exact rfl; exact rfl; exact rfl; (exact hs.b0); exact rfl; kernel_rfl)))
  have HN := Lib.hid hn
  clear g1 g2 hn hy5 HX0
  go_loopw [] (fun wx => ∃ (j nj : Nat) (a : Option Addr) (p : Nat), j ≤ k ∧ Hid (nj = N - j ∧ k ≤ y) ∧ sat W (cel d 85 [.pointer (some ⟨v, 0, none⟩), .bool false, .int .i64 cols, .slice a nj p, .int .i64 top, .int .i64 bot] :: own 93 2 (.slice a nj p) nj (lvs (ps.drop j)).flatten :: lrw 100 (ps.drop j) :: dsP v nx most SL :: H) wx) (fun wx => len3 d wx)
  case atStart => exact ⟨0, N, _, _, Nat.zero_le _, Lib.hid ⟨rfl, by have := HB.out.2.2.2.2.2.1; omega⟩, by rw [List.drop_zero]; skip; refine sb_from ?_ hs; repeat constructor⟩
  case round =>
    clear hs
    obtain ⟨j, nj, a, p, hjk, HNJ, hs⟩ := hrel
    have hnj : 0 < nj := by have := HNJ.out; omega
    obtain ⟨g, rfl⟩ := own_ptr hnj hs.b1
    obtain ⟨hnp, hpm⟩ := hs.b1.own_len
    have hp63 : (p : Int) ≤ 9223372036854775807 := by unfold maxLen at hpm; omega
    have HLN : Hid (len3 d wr = nj) := Lib.hid (len3_is hs)
    have hn5 : nj ≤ 512 := by have := HNJ.out; have := HB.out.1; omega
    have HOJ : Hid ((ps.drop j).map PL.ln = L.drop j ∧ (ps.drop j).length = nj) := Lib.hid ⟨by rw [List.map_drop, HO.out.1], by rw [List.length_drop, HO.out.2, HNJ.out.1]⟩
    have HF := Lib.hid (find_at HK.out.2.2.1 HY.out (by have := HNJ.out.2; omega : j ≤ y))
    simp only at HF
    obtain ⟨pj, hpj⟩ : ∃ pj, ps.drop j = pj := ⟨_, rfl⟩
    have HPJ := Lib.hid hpj
    rw [hpj] at hs HOJ
    clear hpj hpm
    by_cases hjk2 : j < k
    · have q1 : (rows : Int) < (nj : Int) := by have := HNJ.out; have := HB.out.2.2.2.2.2.1; omega
      have q2 : decide ((rows : Int) ≤ (y : Int) - (j : Int)) = true := decide_eq_true (by have := HB.out.2.2.2.2.2.1; omega)
      have q3 : decide ((rows : Int) < (nj : Int)) = true := decide_eq_true q1
      have y63 : (y : Int) ≤ 512 := by have := HB.out.1; omega
      obtain ⟨⟨xid, xb, xl⟩, hx⟩ : ∃ x, pj[0]? = some x := ⟨_, List.getElem?_eq_getElem (by rw [HOJ.out.2]; exact hnj)⟩
      have hx2 : (L.drop j)[0]? = some (xid, xl) := by rw [← HOJ.out.1, List.getElem?_map, hx]; rfl
      have HX0 := Lib.hid (lvs_at hx).1
      have HX1 := Lib.hid (lvs_at hx).2
      have hx3 : L[j]? = some (xid, xl) := by rw [List.getElem?_drop, Nat.add_zero] at hx2; exact hx2
      have hmem : (xid, xl) ∈ L := List.mem_of_getElem? hx3
      obtain ⟨m0, m1, m2⟩ := HK.out.1 _ hmem
      have HID := Lib.hid (HK.out.2.1 _ hmem)
      simp only at m0 m1 m2 HID
      obtain ⟨n0, hn0⟩ : ∃ n0, xl.length = n0 := ⟨_, rfl⟩
      rw [hn0] at m0 m1
      have HLL := Lib.hid hn0
      have HOK := Lib.hid m2
      have HXX := Lib.hid hx
      have HPU := Lib.hid (pushs_succ (most := most) (SL := SL) hx3)
      have HPL := Lib.hid (pushs_le (most := most) (L.take j) SL HK.out.2.2.2.1)
      have HDR : Hid (pj.drop 1 = ps.drop (j + 1)) := Lib.hid (by rw [← HPJ.out, List.drop_drop])
      clear hx hx2 hx3 hmem m2 hn0
      go_upto_region 7 with (first | (go_at_call 60; refine (dfind60o (id := yid) HOJ hnj hn5 (by (apply sk_from (hs := hs); repeat constructor))).mono ?_; clear hs; rintro e w ⟨rfl, hs⟩; rw [HF.out]) | ((with_reducible refine isl ?_); first | ((with_reducible apply ldx); exact rfl; exact rfl; exact rfl; (exact hs.b0); exact rfl; kernel_rfl)))
      skip
      have HR1 : Hid ((lvs (pj.drop 1)).flatten.length = (nj - 1) * 2) := Lib.hid (by rw [lvs_size, List.length_drop, HOJ.out.2])
      have hp1 : ¬ p = 1 := by omega
      go_wp2_with (first | ((apply apx0 hs.b0; exact rfl; exact rfl; exact rfl; exact rfl; exact slty83; (exact rds_tail (f := 1) hs.b2); exact HR1.out; exact lvs_one; omega; (unfold maxLen; omega); clear hs; intro a5 c5 w hs)) | ((with_reducible refine isl ?_); first | ((with_reducible apply ldx); exact rfl; exact rfl; exact rfl; (exact hs.b1); exact rfl; kernel_rfl) | ((with_reducible apply stx); exact rfl; exact rfl; exact rfl; (exact hs.b1); exact rfl; exact rfl; exact rfl; kernel_rfl; exact rfl; clear hs; intro w hs) | ((with_reducible refine wrap hs ?_); clear hs; intro w hs)))
      go_roundw
      case rel =>
        have h9 := lrw_drop 1 (by refine sb_from ?_ hs; repeat constructor : sat W (lrw 100 pj :: cel d 85 [.pointer (some ⟨v, 0, none⟩), .bool false, .int .i64 cols, .slice a5 (nj - 1) c5, .int .i64 top, .int .i64 bot] :: own 93 2 (.slice a5 (nj - 1) c5) (nj - 1) (lvs (pj.drop 1)).flatten :: dsP v nx most SL :: H) w)
        rw [HDR.out] at h9
        exact ⟨j + 1, nj - 1, a5, c5, by omega, Lib.hid (by have := HNJ.out; omega), by refine sb_from ?_ h9; repeat constructor⟩
      case measure => rw [HLN.out, len3_is (by refine sb_from ?_ hs; repeat constructor)]; omega
    · obtain rfl : j = k := by omega
      have q2 : decide ((rows : Int) ≤ (y : Int) - (j : Int)) = false := decide_eq_false (by have := HB.out.2.2.2.2.2.1; omega)
      have y63 : (y : Int) ≤ 512 := by have := HB.out.1; omega
      clear hjk2 hjk
      have HN1 : Hid (n1 ≤ nj ∧ 0 < n1 ∧ n1 ≤ 512 ∧ n1 ≤ rows ∧ (nj ≤ rows → n1 = nj) ∧ (rows < nj → n1 = rows)) := Lib.hid (by have := HB.out; have := HNJ.out; omega)
      have HO1 : Hid ((pj.take n1).map PL.ln = (L.drop j).take n1 ∧ (pj.take n1).length = n1) := Lib.hid ⟨by rw [List.map_take, HOJ.out.1], by rw [List.length_take, HOJ.out.2]; have := HN1.out.1; omega⟩
      have HOK : Hid (LOK ((L.drop j).take n1)) := Lib.hid fun x hx => HK.out.1 x (List.mem_of_mem_drop (List.mem_of_mem_take hx))
      have HRR : Hid ((lvs (pj.take n1)).flatten.length = n1 * 2) := Lib.hid (by rw [lvs_size, HO1.out.2])
      by_cases hq : rows < nj
      case' pos =>
        have q1 : (rows : Int) < (nj : Int) := by omega
        have q3 : decide ((rows : Int) < (nj : Int)) = true := decide_eq_true q1
        have HER := Lib.hid (HN1.out.2.2.2.2.2 hq)
        have q4 : (rows : Int) ≤ (nj : Int) := by omega
        have q5 : (rows : Int) ≤ (p : Int) := by omega
        have HRR3 : Hid ((lvs (pj.take rows)).flatten.length = rows * 2) := Lib.hid (by rw [← HER.out]; exact HRR.out)
        go_upto_region 10 with (first | (go_at_call 60; refine (dfind60o (id := yid) HOJ hnj hn5 (by (apply sk_from (hs := hs); repeat constructor))).mono ?_; clear hs; rintro e w ⟨rfl, hs⟩; rw [HF.out]) | ((apply apx0 hs.b0; exact rfl; exact rfl; exact rfl; exact rfl; exact slty83; (exact rds_head (f := rows) (by omega) hs.b2); exact HRR3.out; exact lvs_one; omega; (unfold maxLen; omega); clear hs; intro a5 c5 w hs)) | ((with_reducible refine isl ?_); first | ((with_reducible apply ldx); exact rfl; exact rfl; exact rfl; (first | exact hs.b0 | exact hs.b1); exact rfl; kernel_rfl) | ((with_reducible apply stx); exact rfl; exact rfl; exact rfl; (exact hs.b1); exact rfl; exact rfl; exact rfl; kernel_rfl; exact rfl; clear hs; intro w hs) | ((with_reducible refine wrap hs ?_); clear hs; intro w hs)))
        rw [← HER.out] at hs
        have h9 := lrw_take n1 (by refine sb_from ?_ hs; repeat constructor : sat W (lrw 100 pj :: cel d 85 [.pointer (some ⟨v, 0, none⟩), .bool false, .int .i64 cols, .slice a5 n1 c5, .int .i64 top, .int .i64 bot] :: own 93 2 (.slice a5 n1 c5) n1 (lvs (pj.take n1)).flatten :: dsP v nx most SL :: H) w)
        have hs1 : ∃ (a5 : Option Addr) (c5 : Nat), sat W (cel d 85 [.pointer (some ⟨v, 0, none⟩), .bool false, .int .i64 cols, .slice a5 n1 c5, .int .i64 top, .int .i64 bot] :: own 93 2 (.slice a5 n1 c5) n1 (lvs (pj.take n1)).flatten :: lrw 100 (pj.take n1) :: dsP v nx most SL :: H) w := ⟨a5, c5, by refine sb_from ?_ h9; repeat constructor⟩
        clear hs h9 q1 q3 q4 q5
      case' neg =>
        have q1 : ¬ (rows : Int) < (nj : Int) := by omega
        have q3 : decide ((rows : Int) < (nj : Int)) = false := decide_eq_false q1
        obtain rfl : n1 = nj := HN1.out.2.2.2.2.1 (by omega)
        go_upto_region 10 with (((with_reducible refine isl ?_); first | ((with_reducible apply ldx); exact rfl; exact rfl; exact rfl; (exact hs.b0); exact rfl; kernel_rfl)))
        have e8 : pj.take n1 = pj := List.take_of_length_le (by rw [HOJ.out.2]; exact Nat.le_refl _)
        have hs1 : ∃ (a5 : Option Addr) (c5 : Nat), sat W (cel d 85 [.pointer (some ⟨v, 0, none⟩), .bool false, .int .i64 cols, .slice a5 n1 c5, .int .i64 top, .int .i64 bot] :: own 93 2 (.slice a5 n1 c5) n1 (lvs (pj.take n1)).flatten :: lrw 100 (pj.take n1) :: dsP v nx most SL :: H) wr := ⟨_, p, by rw [e8]; refine sb_from ?_ hs; repeat constructor⟩
        clear hs e8 q1 q3
        revert hs1
        generalize wr = w
        intro hs1
      all_goals
        obtain ⟨a5, c5, hs⟩ := hs1
        obtain ⟨g5, rfl⟩ := own_ptr HN1.out.2.1 hs.b1
        generalize pj.take n1 = p1 at hs HO1 HRR
        have r63 : (n1 : Int) ≤ 512 := by have := HN1.out; omega
        go_wp2_with (fail)
        go_loopw [11] (fun i wx => ∃ i0 : Nat, i0 ≤ n1 ∧ i = .int .i64 (i0 : Int) ∧ sat W (cel d 85 [.pointer (some ⟨v, 0, none⟩), .bool false, .int .i64 cols, .slice (some ⟨g5, 0, none⟩) n1 c5, .int .i64 top, .int .i64 bot] :: own 93 2 (.slice (some ⟨g5, 0, none⟩) n1 c5) n1 (lvs p1).flatten :: lrw 100 ((p1.take i0).map (rsz c2) ++ p1.drop i0) :: dsP v nx most SL :: H) wx) (fun i _ => ((n1 : Int) - intOf i).toNat)
        case atStart => exact ⟨0, Nat.zero_le _, rfl, by refine sb_from ?_ hs; repeat constructor⟩
        case round =>
          clear hs
          obtain ⟨i0, hi, rfl, hs⟩ := hrel
          by_cases hin : i0 < n1
          · have hin2 : (i0 : Int) < (n1 : Int) := by omega
            obtain ⟨⟨xid, xb, xl⟩, hx⟩ : ∃ x, p1[i0]? = some x := ⟨_, List.getElem?_eq_getElem (by rw [HO1.out.2]; exact hin)⟩
            have hx2 : ((L.drop j).take n1)[i0]? = some (xid, xl) := by rw [← HO1.out.1, List.getElem?_map, hx]; rfl
            obtain ⟨m0, m1, m2⟩ := HOK.out _ (List.mem_of_getElem? hx2)
            simp only at m0 m1 m2
            obtain ⟨mm, hmm⟩ : ∃ mm, xl.length = mm := ⟨_, rfl⟩
            rw [hmm] at m0 m1
            have HLL := Lib.hid hmm
            have HRE := Lib.hid (resize_eq m2 c2).1
            have HX1 := Lib.hid (lvs_at hx).2
            have HXX := Lib.hid hx
            have hs1 := lrw_at (rsz_at (m := c2) hx) hs.b2
            clear hx hx2 hmm hs m2
            have hs : sat W (cel d 85 [.pointer (some ⟨v, 0, none⟩), .bool false, .int .i64 cols, .slice (some ⟨g5, 0, none⟩) n1 c5, .int .i64 top, .int .i64 bot] :: own 93 2 (.slice (some ⟨g5, 0, none⟩) n1 c5) n1 (lvs p1).flatten :: rwP 100 xb xl :: lrw 100 (((p1.take i0).map (rsz c2) ++ p1.drop i0).take i0) :: lrw 100 (((p1.take i0).map (rsz c2) ++ p1.drop i0).drop (i0 + 1)) :: dsP v nx most SL :: H) wr := by refine sb_from ?_ hs1; repeat constructor
            clear hs1
            go_wp2_with (first | (go_at_call 73; refine (resize38_ok HLL.out m0 (by omega) c0 HB.out.2.2.1 (by (apply sk_from (hs := hs); repeat constructor))).mono ?_; clear hs; rintro e w ⟨rfl, hs⟩; rw [← HRE.out] at hs) | ((with_reducible refine isl ?_); first | ((with_reducible apply ldo hs.b1); exact rfl; exact rfl; exact rfl; exact HX1.out; exact one91) | ((with_reducible apply ldx); exact rfl; exact rfl; exact rfl; (exact hs.b0); exact rfl; kernel_rfl)))
            go_roundw
            case rel =>
              refine ⟨i0 + 1, by omega, by go_num, ?_⟩
              have h4 := lrw_put (l := (p1.take i0).map (rsz c2) ++ p1.drop i0) (i := i0) (y := rsz c2 ⟨xid, xb, xl⟩) (List.getElem?_eq_some_iff.1 (rsz_at (m := c2) HXX.out)).1 (by refine sb_from ?_ hs; repeat constructor : sat W (rwP 100 xb (resG xl c2) :: lrw 100 (((p1.take i0).map (rsz c2) ++ p1.drop i0).take i0) :: lrw 100 (((p1.take i0).map (rsz c2) ++ p1.drop i0).drop (i0 + 1)) :: cel d 85 [.pointer (some ⟨v, 0, none⟩), .bool false, .int .i64 cols, .slice (some ⟨g5, 0, none⟩) n1 c5, .int .i64 top, .int .i64 bot] :: own 93 2 (.slice (some ⟨g5, 0, none⟩) n1 c5) n1 (lvs p1).flatten :: dsP v nx most SL :: H) w)
              rw [rsz_set HXX.out] at h4
              refine sb_from ?_ h4; repeat constructor
            case measure => simp [intOf]; omega
          · obtain rfl : i0 = n1 := by omega
            have HP2 : Hid ((p1.take i0).map (rsz c2) ++ p1.drop i0 = p1.map (rsz c2)) := Lib.hid (by rw [List.take_of_length_le (by rw [HO1.out.2]; exact Nat.le_refl _), List.drop_of_length_le (by rw [HO1.out.2]; exact Nat.le_refl _), List.append_nil])
            rw [HP2.out] at hs
            have e7 : (rows : Int) - (i0 : Int) = ((m : Nat) : Int) := by have := HB.out; have := HN1.out; omega
            have HM5 : Hid (m ≤ 512 ∧ i0 + m ≤ 512 ∧ i0 + m = rows) := Lib.hid (by have := HB.out; have := HN1.out; omega)
            have HLV : Hid (lvs (p1.map (rsz c2)) = lvs p1) := Lib.hid (by have h := lvs_rsz c2 i0 p1; rw [HP2.out] at h; exact h)
            have hm5 : (m : Int) ≤ 512 := by have := HM5.out; omega
            clear hin
            go_upto_region 15 with (((with_reducible refine isl ?_); first | ((with_reducible apply ldx); exact rfl; exact rfl; exact rfl; (exact hs.b0); exact rfl; kernel_rfl) | ((with_reducible apply stx); exact rfl; exact rfl; exact rfl; (exact hs.b0); exact rfl; exact rfl; exact rfl; kernel_rfl; exact rfl; clear hs; intro w hs)))
            refine L_begin 20 20 [cel d 85 [.pointer (some ⟨v, 0, none⟩), .bool false, .int .i64 c2, .slice (some ⟨g5, 0, none⟩) i0 c5, .int .i64 top, .int .i64 bot]] [cel d 85 [.pointer (some ⟨v, 0, none⟩), .bool false, .int .i64 c2, .slice (some ⟨g5, 0, none⟩) i0 c5, .int .i64 top, .int .i64 bot]] hs (fun _ h => by (refine sb_from ?_ h; repeat constructor)) (fun _ h => by (refine sb_from ?_ h; repeat constructor)) (by kernel_rfl) ?_; clear hs; intro w hs hd
            refine L_reads2 [0, 2, 3, 4, 5, 7, 8, 9, 10, 11, 12, 13, 14, 15] #[true, false, true, true, true, true, false, true, true, true, true, true, true, true, true, true, false, false, false, false, false] (fuel := 7) hd (by kernel_rfl) (fun _ _ _ _ _ h => h) ?_; clear hd; intro X f hne hf hcl hd; simp only [nths, nth, List.append_nil, List.nil_append, List.cons_append]; (try simp only [Act.put, List.setIfInBounds_toArray, List.set_cons_succ, List.set_cons_zero]); (repeat ((first | ((with_reducible apply ldqx); exact rfl; exact rfl; exact rfl; (exact fun x => (hf x).b0); exact rfl; kernel_rfl) | go_big_quiet_step (fail)); (try simp only [Act.put, List.setIfInBounds_toArray, List.set_cons_succ, List.set_cons_zero]))); refine wpQuiet_nil ?_; clear hcl hf hne f X
            refine L_each [1] (by kernel_rfl) ⟨?_, trivial⟩
            simp only [nth]
            go_wp2_with (fail)
            (refine on_now hs.made ?_); clear hs; intro hs
            refine L_on [cel d 85 [.pointer (some ⟨v, 0, none⟩), .bool false, .int .i64 c2, .slice (some ⟨g5, 0, none⟩) i0 c5, .int .i64 top, .int .i64 bot]] [cel d 85 [.pointer (some ⟨v, 0, none⟩), .bool false, .int .i64 c2, .slice (some ⟨g5, 0, none⟩) i0 c5, .int .i64 top, .int .i64 bot]] #[true, true, true, true, true, true, false, true, true, true, true, true, true, true, true, true, false, false, false, false, false] (fuel := 6) hs (by kernel_rfl) (fun _ h => h) (fun _ h => h) (fun _ => by (refine sb_from ?_ hs; repeat constructor)) (fun _ => by (refine sb_from ?_ hs; repeat constructor)) ?_; clear hd hs; intro hd hs
            refine L_each [6] (by kernel_rfl) ⟨?_, trivial⟩
            simp only [nth]
            go_wp2_with ((apply apx0 hs.b0; exact rfl; exact rfl; exact rfl; exact rfl; exact slty83; (exact sat.own_rds hs.b2); exact HRR.out; exact lvs_one; omega; (unfold maxLen; omega); clear hs; intro a6 c6 w hs))
            (refine on_now hs ?_); clear hs; intro hs
            refine L_on [cel d 85 [.pointer (some ⟨v, 0, none⟩), .bool false, .int .i64 c2, .slice (some ⟨g5, 0, none⟩) i0 c5, .int .i64 top, .int .i64 bot]] [cel d 85 [.pointer (some ⟨v, 0, none⟩), .bool false, .int .i64 c2, .slice (some ⟨g5, 0, none⟩) i0 c5, .int .i64 top, .int .i64 bot]] #[true, true, true, true, true, true, true, true, true, true, true, true, true, true, true, true, false, false, false, false, false] (fuel := 5) hs (by kernel_rfl) (fun _ h => h) (fun _ h => h) (fun _ => by (refine sb_from ?_ hs; repeat constructor)) (fun _ => by (refine sb_from ?_ hs; repeat constructor)) ?_; clear hd hs; intro hd hs
            refine L_each [16] (by kernel_rfl) ⟨?_, trivial⟩
            simp only [nth]
            go_wp2_with (go_at_call 49; refine (dfresh49 (n := m) (cols := c2) (v := v) (most := most) (SL := SL) (nx := nx) (at_ := At.z) HM5.out.1 c0 HB.out.2.2.1 HB.out.2.2.2.2.2.2.2.2 (by have h1 := HB.out; have h2 := HM5.out; omega) (by (apply sk_from (hs := hs); repeat constructor))).mono ?_; clear hs; rintro e w ⟨af, cf, rfl, hs⟩; obtain ⟨pf, hpf1, hpf2, hs⟩ := ln_open (frL_len _ _ _) hs; have HPF := Lib.hid (And.intro hpf1 hpf2); have HLF : Hid ((lvs pf).flatten.length = m * 2) := Lib.hid (by rw [lvs_size, hpf2]); clear hpf1 hpf2)
            (refine on_now hs ?_); clear hs; intro hs
            refine L_on [cel d 85 [.pointer (some ⟨v, 0, none⟩), .bool false, .int .i64 c2, .slice (some ⟨g5, 0, none⟩) i0 c5, .int .i64 top, .int .i64 bot]] [cel d 85 [.pointer (some ⟨v, 0, none⟩), .bool false, .int .i64 c2, .slice (some ⟨g5, 0, none⟩) i0 c5, .int .i64 top, .int .i64 bot]] #[true, true, true, true, true, true, true, true, true, true, true, true, true, true, true, true, true, false, false, false, false] (fuel := 4) hs (by kernel_rfl) (fun _ h => h) (fun _ h => h) (fun _ => by (refine sb_from ?_ hs; repeat constructor)) (fun _ => by (refine sb_from ?_ hs; repeat constructor)) ?_; clear hd hs; intro hd hs
            refine L_each [17] (by kernel_rfl) ⟨?_, trivial⟩
            simp only [nth]
            go_wp2_with ((apply apx hs.b4; exact rfl; exact rfl; exact rfl; exact rfl; exact slty83; (exact sat.own_rds hs.b0); exact HLF.out; exact lvs_one; (have h1 := HM5.out; omega); (have h1 := HM5.out; unfold maxLen; omega); clear hs; intro a7 c7 w hs))
            (refine on_now hs ?_); clear hs; intro hs
            refine L_on [cel d 85 [.pointer (some ⟨v, 0, none⟩), .bool false, .int .i64 c2, .slice (some ⟨g5, 0, none⟩) i0 c5, .int .i64 top, .int .i64 bot]] [cel d 85 [.pointer (some ⟨v, 0, none⟩), .bool false, .int .i64 c2, .slice (some ⟨g5, 0, none⟩) i0 c5, .int .i64 top, .int .i64 bot]] #[true, true, true, true, true, true, true, true, true, true, true, true, true, true, true, true, true, true, false, false, false] (fuel := 3) hs (by kernel_rfl) (fun _ h => h) (fun _ h => h) (fun _ => by (refine sb_from ?_ hs; repeat constructor)) (fun _ => by (refine sb_from ?_ hs; repeat constructor)) ?_; clear hd hs; intro hd hs
            refine L_each [18] (by kernel_rfl) ⟨?_, trivial⟩
            simp only [nth]
            go_wp2_with (fail)
            (refine on_now hs ?_); clear hs; intro hs
            refine L_on [cel d 85 [.pointer (some ⟨v, 0, none⟩), .bool false, .int .i64 c2, .slice (some ⟨g5, 0, none⟩) i0 c5, .int .i64 top, .int .i64 bot]] [cel d 85 [.pointer (some ⟨v, 0, none⟩), .bool false, .int .i64 c2, .slice (some ⟨g5, 0, none⟩) i0 c5, .int .i64 top, .int .i64 bot]] #[true, true, true, true, true, true, true, true, true, true, true, true, true, true, true, true, true, true, true, false, false] (fuel := 2) hs (by kernel_rfl) (fun _ h => h) (fun _ h => h) (fun _ => by (refine sb_from ?_ hs; repeat constructor)) (fun _ => by (refine sb_from ?_ hs; repeat constructor)) ?_; clear hd hs; intro hd hs
            refine L_reads2 [19] #[true, true, true, true, true, true, true, true, true, true, true, true, true, true, true, true, true, true, true, true, false] (fuel := 1) hd (by kernel_rfl) (fun _ _ _ _ _ h => h) ?_; clear hd; intro X f hne hf hcl hd; simp only [nths, nth, List.append_nil, List.nil_append, List.cons_append]; (try simp only [Act.put, List.setIfInBounds_toArray, List.set_cons_succ, List.set_cons_zero]); (repeat ((go_big_quiet_step (fail)); (try simp only [Act.put, List.setIfInBounds_toArray, List.set_cons_succ, List.set_cons_zero]))); refine wpQuiet_nil ?_; clear hcl hf hne f X
            refine L_each [20] (by kernel_rfl) ⟨?_, trivial⟩
            simp only [nth]
            go_wp2_with (((with_reducible refine isl ?_); first | ((with_reducible apply stx); exact rfl; exact rfl; exact rfl; (exact hs.b3); exact rfl; exact rfl; exact rfl; kernel_rfl; exact rfl; clear hs; intro w hs)))
            (refine on_now hs ?_); clear hs; intro hs
            refine L_on [cel d 85 [.pointer (some ⟨v, 0, none⟩), .bool false, .int .i64 c2, .slice (some ⟨g5, 0, none⟩) i0 c5, .int .i64 top, .int .i64 bot]] [cel d 85 [.pointer (some ⟨v, 0, none⟩), .bool false, .int .i64 c2, .slice (some ⟨g5, 0, none⟩) i0 c5, .int .i64 top, .int .i64 bot]] #[true, true, true, true, true, true, true, true, true, true, true, true, true, true, true, true, true, true, true, true, true] (fuel := 0) hs (by kernel_rfl) (fun _ h => h) (fun _ h => h) (fun e => absurd e (by decide)) (fun e => absurd e (by decide)) ?_; clear hd hs; intro hd hs
            refine L_done (by kernel_rfl) ?_; clear hd
            go_upto_region 17 with (((with_reducible refine isl ?_); first | ((with_reducible apply stx); exact rfl; exact rfl; exact rfl; (exact hs.b0); exact rfl; exact rfl; exact rfl; kernel_rfl; exact rfl; clear hs; intro w hs) | ((with_reducible apply stcx); exact rfl; exact rfl; exact rfl; (exact hs.b0); exact rfl; exact rfl; kernel_rfl; exact rfl; clear hs; intro w hs)))
            have hlv : (lvs p1).flatten ++ (lvs pf).flatten = (lvs (p1.map (rsz c2) ++ pf)).flatten := by rw [lvs_app, List.flatten_append, HLV.out]
            rw [hlv] at hs
            have h1 := lrw_app (by refine sb_from ?_ hs; repeat constructor : sat W (lrw 100 (p1.map (rsz c2)) :: lrw 100 pf :: cel d 85 [.pointer (some ⟨v, 0, none⟩), .bool false, .int .i64 c2, .slice a7 (i0 + m) c7, .int .i64 0, .int .i64 ((rows : Int) - 1)] :: own 93 2 (.slice a7 (i0 + m) c7) (i0 + m) (lvs (p1.map (rsz c2) ++ pf)).flatten :: dsP v (nx + m) most SL :: H) w)
            have HOF : Hid ((p1.map (rsz c2) ++ pf).map PL.ln = ((L.drop j).take i0).map (rszL c2) ++ frL m nx (frC c2 At.z) ∧ (p1.map (rsz c2) ++ pf).length = i0 + m) := Lib.hid ⟨by rw [List.map_append, rsz_map, HO1.out.1, HPF.out.1], by rw [List.length_append, List.length_map, HO1.out.2, HPF.out.2]⟩
            have hs2 := dc_close HOF (by refine sb_from ?_ h1; repeat constructor : sat W (cel d 85 [.pointer (some ⟨v, 0, none⟩), .bool false, .int .i64 c2, .slice a7 (i0 + m) c7, .int .i64 0, .int .i64 ((rows : Int) - 1)] :: own 93 2 (.slice a7 (i0 + m) c7) (i0 + m) (lvs (p1.map (rsz c2) ++ pf)).flatten :: lrw 100 (p1.map (rsz c2) ++ pf) :: dsP v (nx + m) most SL :: H) w)
            clear hs h1 hlv
            have hs := hs2
            clear hs2
            have HLL : Hid ((((L.drop j).take i0).map (rszL c2) ++ frL m nx (frC c2 At.z)).length = i0 + m) := Lib.hid (by rw [← HOF.out.1, List.length_map, HOF.out.2])
            have HFF : Hid (ffst (((L.drop j).take i0).map (rszL c2) ++ frL m nx (frC c2 At.z)) yid = ((y - j : Nat) : Int)) := Lib.hid (find_new HK.out.2.2.1 HY.out HNJ.out.2 (by have := HB.out; omega))
            obtain ⟨LF, hLF⟩ : ∃ LF, ((L.drop j).take i0).map (rszL c2) ++ frL m nx (frC c2 At.z) = LF := ⟨_, rfl⟩
            have HLE := Lib.hid hLF
            rw [hLF] at hs HLL HFF
            clear hLF
            go_wp2_with ((go_at_call 60; refine (dfind60 (id := yid) HLL.out (by have := HN1.out; omega) HM5.out.2.1 (by (apply sk_from (hs := hs); repeat constructor))).mono ?_; clear hs; rintro e w ⟨rfl, hs⟩; rw [HFF.out]))
            rw [← HLE.out] at hs
            refine end_ret rfl (results_tmp2 rfl _ _ _) ⟨rfl, by refine sb_from ?_ hs; repeat constructor⟩
end Go.Proofs.Ytdcagaaanbgcoaa
