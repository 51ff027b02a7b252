/- Law 18: List, Len, Accept. -/
import Derived.Test.YtinfgebdcjaabaaQ7
namespace Go.Proofs.Ytinfgebdcjaabaa
open Go.RowKit Go.Mem Go.Queue
variable {W w : World} {H : List HProp}
theorem ret_cell_tmp {P : Program} {fn : Func} {R : Ending → World → Prop} {a : Act} {b : Nat} {T ty : TypeId} {l : List Value} {t u : Tmp} (hs : sat W (cel b T l :: H) w)
    (hr : fn.results = #[.cell t ty, .tmp u]) (hd : a.defers = []) (hx : a.eval (.tmp t) = .pointer (some ⟨b, 0, none⟩)) (ht : rowTy P ty l.length = true)
    (h : R (.returned (.tuple #[.agg l.toArray, a.eval (.tmp u)])) w) : bodyPost P fn R .ret a w := by
  obtain ⟨d, h1, h2, h3⟩ := rowTy_parts ht
  refine ⟨hd, .tuple #[.agg l.toArray, a.eval (.tmp u)], ?_, h⟩
  have hx' : a.tmps[t]?.getD undef = .pointer (some ⟨b, 0, none⟩) := by rw [← Array.getD_eq_getD_getElem?]; exact hx
  have hl := run_loadVar_mid (P := P) w b 0 ty l d (hs.cel_range (i := 0) (n := l.length) (by simp)) h1 h2 h3
  unfold results
  simp [hr, hx', hl, asAddr, Act.eval]
theorem ret_cell_tmp2 {P : Program} {fn : Func} {R : Ending → World → Prop} {a : Act} {b : Nat} {T ty : TypeId} {l : List Value} {t u v : Tmp} (hs : sat W (cel b T l :: H) w)
    (hr : fn.results = #[.cell t ty, .tmp u, .tmp v]) (hd : a.defers = []) (hx : a.eval (.tmp t) = .pointer (some ⟨b, 0, none⟩)) (ht : rowTy P ty l.length = true)
    (h : R (.returned (.tuple #[.agg l.toArray, a.eval (.tmp u), a.eval (.tmp v)])) w) : bodyPost P fn R .ret a w := by
  obtain ⟨d, h1, h2, h3⟩ := rowTy_parts ht
  refine ⟨hd, .tuple #[.agg l.toArray, a.eval (.tmp u), a.eval (.tmp v)], ?_, h⟩
  have hx' : a.tmps[t]?.getD undef = .pointer (some ⟨b, 0, none⟩) := by rw [← Array.getD_eq_getD_getElem?]; exact hx
  have hl := run_loadVar_mid (P := P) w b 0 ty l d (hs.cel_range (i := 0) (n := l.length) (by simp)) h1 h2 h3
  unfold results
  simp [hr, hx', hl, asAddr, Act.eval]
abbrev ut0 : Ut := ⟨0, ⟨#[]⟩, 0, 0, 0⟩
theorem zv25 (w : World) : (zeroValue 25).run Try.prog w = .ok (utV ut0) w := zero25 w
attribute [local irreducible] World.setCell World.setCells World.alloc World.drew World.drewN Calls sat cel own blk old wpQuiet wpList qu uts gn World.rangeAt tru leastUpto bestUpto
variable {b : Nat} {q : Qu}
theorem list12 (h0 : 0 < q.size) (hq : q.waits.length ≤ 1000) (hs : sat W (qu b q :: H) w) : Calls Try.prog 12 #[.pointer (some ⟨b, 0, none⟩)] w fun e w' => ∃ a c, e = .returned (.slice a q.waits.length c) ∧ sat W (utO a c q.waits :: qu b q :: H) w' := by
  have hs0 := hs
  obtain ⟨aW, aS, cW, cS, hs⟩ := hs.qu_open
  go_enter Try.func12, Try.ntmps12
  go_wp2_with (first | (go_at_call 25; refine (ready25 h0 hs0).mono ?_; rintro e w3 ⟨rfl, hw3⟩; rw [hw3]; clear hw3) | (go_at_call 33; (first | refine (clone33 rfl hq hs.b0).mono ?_ | refine (clone33 rfl hq hs.b1).mono ?_ | refine (clone33 rfl hq hs.b2).mono ?_ | refine (clone33 rfl hq hs.b3).mono ?_ | refine (clone33 rfl hq hs.b4).mono ?_ | refine (clone33 rfl hq hs.b5).mono ?_ | refine (clone33 rfl hq hs.b6).mono ?_); clear hs; rintro e w ⟨a8, c8, rfl, hs⟩) | ((with_reducible refine isl ?_); first | ((with_reducible apply ld hs.b0); exact rfl; exact rfl; exact rfl; exact rfl; kernel_rfl) | ((with_reducible apply st hs.b0); exact rfl; exact rfl; exact rfl; exact rfl; exact rfl; exact rfl; kernel_rfl; exact rfl; clear hs; intro w hs) | ((with_reducible apply stc hs.b0); exact rfl; exact rfl; exact rfl; exact rfl; exact rfl; kernel_rfl; exact rfl; clear hs; intro w hs) | ((with_reducible refine wrap hs ?_); clear hs; intro w hs) | ((with_reducible refine wrapn hs ?_); clear hs; intro w hs) | ((with_reducible refine wrapd hs ?_); clear hs; intro w hs)))
  go_ret
  exact ⟨a8, c8, rfl, sat.swap (sat.qu_close (aW := aW) (cW := cW) (aS := aS) (cS := cS) (by (refine sb_from ?_ hs; repeat constructor)))⟩
theorem list12_nil (hs : sat W H w) : Calls Try.prog 12 #[.pointer none] w fun e w' => e = .returned (.slice none 0 0) ∧ sat W H w' := by
  go_enter Try.func12, Try.ntmps12
  go_wp2_with (first | (go_at_call 25; refine (ready25_nil w).mono ?_; rintro e w3 ⟨rfl, hw3⟩; rw [hw3]; clear hw3))
  go_ret
  exact ⟨rfl, hs⟩
theorem list12_zero (h0 : q.size = 0) (hs : sat W (qu b q :: H) w) : Calls Try.prog 12 #[.pointer (some ⟨b, 0, none⟩)] w fun e w' => e = .returned (.slice none 0 0) ∧ sat W (qu b q :: H) w' := by
  go_enter Try.func12, Try.ntmps12
  go_wp2_with (first | (go_at_call 25; refine (ready25_zero h0 hs).mono ?_; rintro e w3 ⟨rfl, hw3⟩; rw [hw3]; clear hw3))
  go_ret
  exact ⟨rfl, hs⟩
theorem len16 (h0 : 0 < q.size) (hq : q.waits.length ≤ 1000) (hs : sat W (qu b q :: H) w) : Calls Try.prog 16 #[.pointer (some ⟨b, 0, none⟩)] w fun e w' => e = .returned (.int .i64 (q.waits.length : Int)) ∧ sat W (qu b q :: H) w' := by
  go_enter Try.func16, Try.ntmps16
  go_wp2_with (first | (go_at_call 12; refine (list12 h0 hq hs).mono ?_; clear hs; rintro e w ⟨a8, c8, rfl, hs⟩))
  go_ret
  exact ⟨rfl, hs.drop⟩
theorem len16_nil (hs : sat W H w) : Calls Try.prog 16 #[.pointer none] w fun e w' => e = .returned (.int .i64 0) ∧ sat W H w' := by
  go_enter Try.func16, Try.ntmps16
  go_wp2_with (first | (go_at_call 12; refine (list12_nil hs).mono ?_; clear hs; rintro e w ⟨rfl, hs⟩))
  go_ret
  exact ⟨rfl, hs⟩
theorem len16_zero (h0 : q.size = 0) (hs : sat W (qu b q :: H) w) : Calls Try.prog 16 #[.pointer (some ⟨b, 0, none⟩)] w fun e w' => e = .returned (.int .i64 0) ∧ sat W (qu b q :: H) w' := by
  go_enter Try.func16, Try.ntmps16
  go_wp2_with (first | (go_at_call 12; refine (list12_zero h0 hs).mono ?_; clear hs; rintro e w ⟨rfl, hs⟩))
  go_ret
  exact ⟨rfl, hs⟩
theorem acc11_len0 {p : Option Addr} {G : List HProp} (hl : ∀ K w, sat W (K :: G) w → Calls Try.prog 16 #[.pointer p] w fun e w' => e = .returned (.int .i64 0) ∧ sat W (K :: G) w') (hs : sat W G w) : Calls Try.prog 11 #[.pointer p] w fun e w' => e = .returned (.tuple #[utV ut0, .bool false]) ∧ sat W G w' := by
  go_enter Try.func11, Try.ntmps11
  go_upto_region 2 with (first | (go_at_call 16; refine (hl _ _ hs).mono ?_; clear hs; rintro e w ⟨rfl, hs⟩) | ((with_reducible refine wrap hs ?_); clear hs; generalize w.heap.size = z2; intro w hs))
  go_wp2_with (first | ((with_reducible refine isl ?_); first | ((with_reducible apply stsw hs.b0); exact rfl; exact rfl; exact rfl; exact rfl; exact row25; exact rfl; exact rfl; exact rfl; clear hs; intro w hs) | ((with_reducible apply ld hs.b0); exact rfl; exact rfl; exact rfl; exact rfl; kernel_rfl) | ((with_reducible apply ld hs.b1); exact rfl; exact rfl; exact rfl; exact rfl; kernel_rfl) | ((with_reducible apply st hs.b0); exact rfl; exact rfl; exact rfl; exact rfl; exact rfl; exact rfl; kernel_rfl; exact rfl; clear hs; intro w hs) | ((with_reducible apply st hs.b1); exact rfl; exact rfl; exact rfl; exact rfl; exact rfl; exact rfl; kernel_rfl; exact rfl; clear hs; intro w hs) | ((with_reducible apply stc hs.b0); exact rfl; exact rfl; exact rfl; exact rfl; exact rfl; kernel_rfl; exact rfl; clear hs; intro w hs) | ((with_reducible apply stc hs.b1); exact rfl; exact rfl; exact rfl; exact rfl; exact rfl; kernel_rfl; exact rfl; clear hs; intro w hs) | ((with_reducible refine wrap hs ?_); clear hs; intro w hs) | ((with_reducible refine wrapn hs ?_); clear hs; intro w hs) | ((with_reducible refine wrapd hs ?_); clear hs; intro w hs)))
  refine ret_cell_tmp (l := utC ut0) hs rfl rfl rfl row25 ⟨rfl, hs.drop⟩
set_option maxHeartbeats 4000000 in
theorem acc11_yes {n : Nat} {y : Ut} (hn : n = q.waits.length) (hq : n ≤ 1000) (hz : 0 < q.size) (h0 : 0 < n) (hy : q.waits[bestAt q.waits]? = some y) (hs : sat W (qu b q :: H) w) : Calls Try.prog 11 #[.pointer (some ⟨b, 0, none⟩)] w fun e w' => e = .returned (.tuple #[utV y, .bool true]) ∧ sat W (qu b { q with waits := q.waits.eraseIdx (bestAt q.waits), spoken := [y], words := 0 } :: H) w' := by
  have HN := Lib.hid hn
  have HYL : Hid (q.waits[bestUpto q.waits n]? = some y) := Lib.hid (by rw [hn]; exact hy)
  have HLA : Hid (bestAt q.waits = bestUpto q.waits n) := Lib.hid (by rw [hn]; rfl)
  have HL : Hid (∀ {W w : World} {H : List HProp}, sat W (qu b q :: H) w → Calls Try.prog 16 #[.pointer (some ⟨b, 0, none⟩)] w fun e w' => e = .returned (.int .i64 (n : Int)) ∧ sat W (qu b q :: H) w') := Lib.hid fun hs => by rw [hn]; exact len16 hz (by omega) hs
  clear hn hy
  go_enter Try.func11, Try.ntmps11
  go_upto_region 4 with (first | (go_at_call 16; refine (HL.out hs.b1).mono ?_; clear hs; rintro e w ⟨rfl, hs⟩) | ((with_reducible refine wrap hs ?_); clear hs; generalize w.heap.size = z2; intro w hs))
  obtain ⟨aW, aS, cW, cS, hs⟩ := hs.qu_open
  obtain ⟨g, rfl⟩ : ∃ g, aW = some ⟨g, 0, none⟩ := by
    have h1 : sat W (utO aW cW q.waits :: H) w := by (refine sb_from ?_ hs; repeat constructor)
    obtain ⟨g, c, e⟩ := h1.own_some (by rw [← HN.out]; exact h0)
    cases e
    exact ⟨g, rfl⟩
  replace hs : sat W (cel z2 25 (utC ut0) :: cel b 60 [.int .i64 (q.size : Int), .slice (some ⟨g, 0, none⟩) n cW, .slice aS q.spoken.length cS, .int .i64 q.words, .int .u64 q.last, .int .i64 q.count] :: own 25 5 (.slice (some ⟨g, 0, none⟩) n cW) n (uts q.waits) :: utO aS cS q.spoken :: H) w := by
    rw [HN.out]
    (refine sb_from ?_ hs; repeat constructor)
  go_wp2_with (first | ((with_reducible refine isl ?_); first | ((with_reducible apply ld hs.b0); exact rfl; exact rfl; exact rfl; exact rfl; kernel_rfl) | ((with_reducible apply ld hs.b1); exact rfl; exact rfl; exact rfl; exact rfl; kernel_rfl) | ((with_reducible apply ld hs.b2); exact rfl; exact rfl; exact rfl; exact rfl; kernel_rfl) | ((with_reducible apply st hs.b0); exact rfl; exact rfl; exact rfl; exact rfl; exact rfl; exact rfl; kernel_rfl; exact rfl; clear hs; intro w hs) | ((with_reducible apply st hs.b1); exact rfl; exact rfl; exact rfl; exact rfl; exact rfl; exact rfl; kernel_rfl; exact rfl; clear hs; intro w hs) | ((with_reducible apply st hs.b2); exact rfl; exact rfl; exact rfl; exact rfl; exact rfl; exact rfl; kernel_rfl; exact rfl; clear hs; intro w hs) | ((with_reducible apply stc hs.b0); exact rfl; exact rfl; exact rfl; exact rfl; exact rfl; kernel_rfl; exact rfl; clear hs; intro w hs) | ((with_reducible apply stc hs.b1); exact rfl; exact rfl; exact rfl; exact rfl; exact rfl; kernel_rfl; exact rfl; clear hs; intro w hs) | ((with_reducible apply stc hs.b2); exact rfl; exact rfl; exact rfl; exact rfl; exact rfl; kernel_rfl; exact rfl; clear hs; intro w hs) | ((with_reducible refine wrap hs ?_); clear hs; intro w hs) | ((with_reducible refine wrapn hs ?_); clear hs; intro w hs) | ((with_reducible refine wrapd hs ?_); clear hs; intro w hs)))
  go_loopw [4, 17] (fun v6 i wr => ∃ (j at_ : Nat), j ≤ n ∧ at_ < n ∧ Hid (bestUpto q.waits j = at_) ∧ v6 = .int .i64 (at_ : Int) ∧ i = .int .i64 (j : Int) ∧ sat W (cel z2 25 (utC ut0) :: cel b 60 [.int .i64 (q.size : Int), .slice (some ⟨g, 0, none⟩) n cW, .slice aS q.spoken.length cS, .int .i64 q.words, .int .u64 q.last, .int .i64 q.count] :: own 25 5 (.slice (some ⟨g, 0, none⟩) n cW) n (uts q.waits) :: utO aS cS q.spoken :: H) wr) (fun _ i _ => ((n : Int) - intOf i).toNat)
  case atStart => exact ⟨0, 0, Nat.zero_le _, h0, Lib.hid (by unfold bestUpto; rfl), rfl, rfl, hs⟩
  case round =>
    clear hs
    obtain ⟨j, at_, hj, hat, HAT, rfl, rfl, hs⟩ := hrel
    obtain ⟨y', hy'⟩ : ∃ y', q.waits[at_]? = some y' := ⟨_, List.getElem?_eq_getElem (by rw [← HN.out]; exact hat)⟩
    have HYP := Lib.hid (uts_pr hy')
    by_cases hjn : j < n
    · obtain ⟨x, hx⟩ : ∃ x, q.waits[j]? = some x := ⟨_, List.getElem?_eq_getElem (by rw [← HN.out]; exact hjn)⟩
      have HX := Lib.hid hx
      have HY' := Lib.hid hy'
      clear hx hy'
      by_cases hle : y'.pr < x.pr
      · have HAT2 := Lib.hid (best_yes HAT.out HX.out HY'.out hle)
        go_upto_region 7 with (first | (first | (((with_reducible apply ldsc (cs := utC x)); exact rfl; exact rfl; exact rfl; exact uts_range hs.b0 HX.out; exact row25)) | (((with_reducible apply ldsc (cs := utC x)); exact rfl; exact rfl; exact rfl; exact uts_range hs.b1 HX.out; exact row25)) | (((with_reducible apply ldsc (cs := utC x)); exact rfl; exact rfl; exact rfl; exact uts_range hs.b2 HX.out; exact row25)) | (((with_reducible apply ldsc (cs := utC x)); exact rfl; exact rfl; exact rfl; exact uts_range hs.b3 HX.out; exact row25)) | (((with_reducible apply ldsc (cs := utC x)); exact rfl; exact rfl; exact rfl; exact uts_range hs.b4 HX.out; exact row25))) | ((with_reducible refine isl ?_); first | ((with_reducible apply stsw hs.b0); exact rfl; exact rfl; exact rfl; exact rfl; exact row25; exact rfl; exact rfl; exact rfl; clear hs; intro w hs) | ((with_reducible refine wrap hs ?_); clear hs; generalize wr.heap.size = z7; intro w hs) | ((with_reducible apply ld hs.b0); exact rfl; exact rfl; exact rfl; exact rfl; kernel_rfl) | ((with_reducible apply ld hs.b1); exact rfl; exact rfl; exact rfl; exact rfl; kernel_rfl) | ((with_reducible apply ld hs.b2); exact rfl; exact rfl; exact rfl; exact rfl; kernel_rfl) | ((with_reducible apply ld hs.b3); exact rfl; exact rfl; exact rfl; exact rfl; kernel_rfl) | ((with_reducible apply ld hs.b4); exact rfl; exact rfl; exact rfl; exact rfl; kernel_rfl) | ((with_reducible apply st hs.b0); exact rfl; exact rfl; exact rfl; exact rfl; exact rfl; exact rfl; kernel_rfl; exact rfl; clear hs; intro w hs) | ((with_reducible apply st hs.b1); exact rfl; exact rfl; exact rfl; exact rfl; exact rfl; exact rfl; kernel_rfl; exact rfl; clear hs; intro w hs) | ((with_reducible apply st hs.b2); exact rfl; exact rfl; exact rfl; exact rfl; exact rfl; exact rfl; kernel_rfl; exact rfl; clear hs; intro w hs) | ((with_reducible apply st hs.b3); exact rfl; exact rfl; exact rfl; exact rfl; exact rfl; exact rfl; kernel_rfl; exact rfl; clear hs; intro w hs) | ((with_reducible apply st hs.b4); exact rfl; exact rfl; exact rfl; exact rfl; exact rfl; exact rfl; kernel_rfl; exact rfl; clear hs; intro w hs) | ((with_reducible apply stc hs.b0); exact rfl; exact rfl; exact rfl; exact rfl; exact rfl; kernel_rfl; exact rfl; clear hs; intro w hs) | ((with_reducible apply stc hs.b1); exact rfl; exact rfl; exact rfl; exact rfl; exact rfl; kernel_rfl; exact rfl; clear hs; intro w hs) | ((with_reducible apply stc hs.b2); exact rfl; exact rfl; exact rfl; exact rfl; exact rfl; kernel_rfl; exact rfl; clear hs; intro w hs) | ((with_reducible apply stc hs.b3); exact rfl; exact rfl; exact rfl; exact rfl; exact rfl; kernel_rfl; exact rfl; clear hs; intro w hs) | ((with_reducible apply stc hs.b4); exact rfl; exact rfl; exact rfl; exact rfl; exact rfl; kernel_rfl; exact rfl; clear hs; intro w hs) | ((with_reducible refine wrap hs ?_); clear hs; intro w hs) | ((with_reducible refine wrapn hs ?_); clear hs; intro w hs) | ((with_reducible refine wrapd hs ?_); clear hs; intro w hs)))
        ((try simp only [Act.put, List.setIfInBounds_toArray, List.set_cons_succ, List.set_cons_zero]); refine region_sat hs (by kernel_rfl) (by kernel_rfl) ?_; intro X f hne hf hcl; (repeat ((first | ((with_reducible apply ldoq (fun x => (hf x).b1)); exact rfl; exact rfl; exact rfl; exact HYP.out; exact one5) | ((with_reducible apply ldoq (fun x => (hf x).b2)); exact rfl; exact rfl; exact rfl; exact HYP.out; exact one5) | ((with_reducible apply ldoq (fun x => (hf x).b3)); exact rfl; exact rfl; exact rfl; exact HYP.out; exact one5) | ((with_reducible apply ldoq (fun x => (hf x).b4)); exact rfl; exact rfl; exact rfl; exact HYP.out; exact one5) | ((with_reducible apply ldq (fun x => (hf x).b0)); exact rfl; exact rfl; exact rfl; exact rfl; kernel_rfl) | ((with_reducible apply ldq (fun x => (hf x).b1)); exact rfl; exact rfl; exact rfl; exact rfl; kernel_rfl) | ((with_reducible apply ldq (fun x => (hf x).b2)); exact rfl; exact rfl; exact rfl; exact rfl; kernel_rfl) | ((with_reducible apply ldq (fun x => (hf x).b3)); exact rfl; exact rfl; exact rfl; exact rfl; kernel_rfl) | ((with_reducible apply ldq (fun x => (hf x).b4)); exact rfl; exact rfl; exact rfl; exact rfl; kernel_rfl) | go_big_quiet_step (fail)); (try simp only [Act.put, List.setIfInBounds_toArray, List.set_cons_succ, List.set_cons_zero]))); refine wpQuiet_nil ?_; clear hcl hf hne hs f X; intro w hs)
        go_wp2_with (first | ((with_reducible refine isl ?_); first | ((with_reducible refine wrap hs ?_); clear hs; intro w hs) | ((with_reducible refine wrapn hs ?_); clear hs; intro w hs) | ((with_reducible refine wrapd hs ?_); clear hs; intro w hs)))
        go_roundw
        case rel => exact ⟨j + 1, j, by omega, by omega, HAT2, rfl, by go_num, by (refine sb_from ?_ hs; repeat constructor)⟩
        case measure => simp [intOf]; omega
      · have HAT2 := Lib.hid (best_no HAT.out HX.out HY'.out hle)
        go_upto_region 7 with (first | (first | (((with_reducible apply ldsc (cs := utC x)); exact rfl; exact rfl; exact rfl; exact uts_range hs.b0 HX.out; exact row25)) | (((with_reducible apply ldsc (cs := utC x)); exact rfl; exact rfl; exact rfl; exact uts_range hs.b1 HX.out; exact row25)) | (((with_reducible apply ldsc (cs := utC x)); exact rfl; exact rfl; exact rfl; exact uts_range hs.b2 HX.out; exact row25)) | (((with_reducible apply ldsc (cs := utC x)); exact rfl; exact rfl; exact rfl; exact uts_range hs.b3 HX.out; exact row25)) | (((with_reducible apply ldsc (cs := utC x)); exact rfl; exact rfl; exact rfl; exact uts_range hs.b4 HX.out; exact row25))) | ((with_reducible refine isl ?_); first | ((with_reducible apply stsw hs.b0); exact rfl; exact rfl; exact rfl; exact rfl; exact row25; exact rfl; exact rfl; exact rfl; clear hs; intro w hs) | ((with_reducible refine wrap hs ?_); clear hs; generalize wr.heap.size = z7; intro w hs) | ((with_reducible apply ld hs.b0); exact rfl; exact rfl; exact rfl; exact rfl; kernel_rfl) | ((with_reducible apply ld hs.b1); exact rfl; exact rfl; exact rfl; exact rfl; kernel_rfl) | ((with_reducible apply ld hs.b2); exact rfl; exact rfl; exact rfl; exact rfl; kernel_rfl) | ((with_reducible apply ld hs.b3); exact rfl; exact rfl; exact rfl; exact rfl; kernel_rfl) | ((with_reducible apply ld hs.b4); exact rfl; exact rfl; exact rfl; exact rfl; kernel_rfl) | ((with_reducible apply st hs.b0); exact rfl; exact rfl; exact rfl; exact rfl; exact rfl; exact rfl; kernel_rfl; exact rfl; clear hs; intro w hs) | ((with_reducible apply st hs.b1); exact rfl; exact rfl; exact rfl; exact rfl; exact rfl; exact rfl; kernel_rfl; exact rfl; clear hs; intro w hs) | ((with_reducible apply st hs.b2); exact rfl; exact rfl; exact rfl; exact rfl; exact rfl; exact rfl; kernel_rfl; exact rfl; clear hs; intro w hs) | ((with_reducible apply st hs.b3); exact rfl; exact rfl; exact rfl; exact rfl; exact rfl; exact rfl; kernel_rfl; exact rfl; clear hs; intro w hs) | ((with_reducible apply st hs.b4); exact rfl; exact rfl; exact rfl; exact rfl; exact rfl; exact rfl; kernel_rfl; exact rfl; clear hs; intro w hs) | ((with_reducible apply stc hs.b0); exact rfl; exact rfl; exact rfl; exact rfl; exact rfl; kernel_rfl; exact rfl; clear hs; intro w hs) | ((with_reducible apply stc hs.b1); exact rfl; exact rfl; exact rfl; exact rfl; exact rfl; kernel_rfl; exact rfl; clear hs; intro w hs) | ((with_reducible apply stc hs.b2); exact rfl; exact rfl; exact rfl; exact rfl; exact rfl; kernel_rfl; exact rfl; clear hs; intro w hs) | ((with_reducible apply stc hs.b3); exact rfl; exact rfl; exact rfl; exact rfl; exact rfl; kernel_rfl; exact rfl; clear hs; intro w hs) | ((with_reducible apply stc hs.b4); exact rfl; exact rfl; exact rfl; exact rfl; exact rfl; kernel_rfl; exact rfl; clear hs; intro w hs) | ((with_reducible refine wrap hs ?_); clear hs; intro w hs) | ((with_reducible refine wrapn hs ?_); clear hs; intro w hs) | ((with_reducible refine wrapd hs ?_); clear hs; intro w hs)))
        ((try simp only [Act.put, List.setIfInBounds_toArray, List.set_cons_succ, List.set_cons_zero]); refine region_sat hs (by kernel_rfl) (by kernel_rfl) ?_; intro X f hne hf hcl; (repeat ((first | ((with_reducible apply ldoq (fun x => (hf x).b1)); exact rfl; exact rfl; exact rfl; exact HYP.out; exact one5) | ((with_reducible apply ldoq (fun x => (hf x).b2)); exact rfl; exact rfl; exact rfl; exact HYP.out; exact one5) | ((with_reducible apply ldoq (fun x => (hf x).b3)); exact rfl; exact rfl; exact rfl; exact HYP.out; exact one5) | ((with_reducible apply ldoq (fun x => (hf x).b4)); exact rfl; exact rfl; exact rfl; exact HYP.out; exact one5) | ((with_reducible apply ldq (fun x => (hf x).b0)); exact rfl; exact rfl; exact rfl; exact rfl; kernel_rfl) | ((with_reducible apply ldq (fun x => (hf x).b1)); exact rfl; exact rfl; exact rfl; exact rfl; kernel_rfl) | ((with_reducible apply ldq (fun x => (hf x).b2)); exact rfl; exact rfl; exact rfl; exact rfl; kernel_rfl) | ((with_reducible apply ldq (fun x => (hf x).b3)); exact rfl; exact rfl; exact rfl; exact rfl; kernel_rfl) | ((with_reducible apply ldq (fun x => (hf x).b4)); exact rfl; exact rfl; exact rfl; exact rfl; kernel_rfl) | go_big_quiet_step (fail)); (try simp only [Act.put, List.setIfInBounds_toArray, List.set_cons_succ, List.set_cons_zero]))); refine wpQuiet_nil ?_; clear hcl hf hne hs f X; intro w hs)
        go_wp2_with (first | ((with_reducible refine isl ?_); first | ((with_reducible refine wrap hs ?_); clear hs; intro w hs) | ((with_reducible refine wrapn hs ?_); clear hs; intro w hs) | ((with_reducible refine wrapd hs ?_); clear hs; intro w hs)))
        go_roundw
        case rel => exact ⟨j + 1, at_, by omega, by omega, HAT2, rfl, by go_num, by (refine sb_from ?_ hs; repeat constructor)⟩
        case measure => simp [intOf]; omega
    · have hjn : j = n := by omega
      obtain rfl : n = j := hjn.symm
      obtain rfl : y = y' := by
        have h := HYL.out
        rw [HAT.out, hy'] at h
        cases h
        rfl
      have HY := Lib.hid hy'
      clear hy'
      go_wp2_with (first | (first | (((with_reducible apply ldsc (cs := utC y)); exact rfl; exact rfl; exact rfl; exact uts_range hs.b0 HY.out; exact row25)) | (((with_reducible apply ldsc (cs := utC y)); exact rfl; exact rfl; exact rfl; exact uts_range hs.b1 HY.out; exact row25)) | (((with_reducible apply ldsc (cs := utC y)); exact rfl; exact rfl; exact rfl; exact uts_range hs.b2 HY.out; exact row25)) | (((with_reducible apply ldsc (cs := utC y)); exact rfl; exact rfl; exact rfl; exact uts_range hs.b3 HY.out; exact row25)) | (((with_reducible apply ldsc (cs := utC y)); exact rfl; exact rfl; exact rfl; exact uts_range hs.b4 HY.out; exact row25)) | (((with_reducible apply ldsc (cs := utC y)); exact rfl; exact rfl; exact rfl; exact uts_range hs.b5 HY.out; exact row25))) | (first | ((with_reducible apply ldsw hs.b0); exact rfl; exact rfl; exact rfl; exact row25) | ((with_reducible apply ldsw hs.b1); exact rfl; exact rfl; exact rfl; exact row25) | ((with_reducible apply ldsw hs.b2); exact rfl; exact rfl; exact rfl; exact row25) | ((with_reducible apply ldsw hs.b3); exact rfl; exact rfl; exact rfl; exact row25) | ((with_reducible apply ldsw hs.b4); exact rfl; exact rfl; exact rfl; exact row25) | ((with_reducible apply ldsw hs.b5); exact rfl; exact rfl; exact rfl; exact row25) | ((with_reducible apply ldsw hs.b6); exact rfl; exact rfl; exact rfl; exact row25)) | (go_at_call 33; (first | refine (clone33 HN.out.symm hq hs.b0).mono ?_ | refine (clone33 HN.out.symm hq hs.b1).mono ?_ | refine (clone33 HN.out.symm hq hs.b2).mono ?_ | refine (clone33 HN.out.symm hq hs.b3).mono ?_ | refine (clone33 HN.out.symm hq hs.b4).mono ?_ | refine (clone33 HN.out.symm hq hs.b5).mono ?_ | refine (clone33 HN.out.symm hq hs.b6).mono ?_); clear hs; rintro e w ⟨a8, c8, rfl, hs⟩; obtain ⟨g8, c9, e8⟩ := hs.own_some (by omega); cases e8) | (go_at_call 32; (first | refine (delete32 HN.out.symm hq hat hs.b0).mono ?_ | refine (delete32 HN.out.symm hq hat hs.b1).mono ?_ | refine (delete32 HN.out.symm hq hat hs.b2).mono ?_ | refine (delete32 HN.out.symm hq hat hs.b3).mono ?_ | refine (delete32 HN.out.symm hq hat hs.b4).mono ?_ | refine (delete32 HN.out.symm hq hat hs.b5).mono ?_ | refine (delete32 HN.out.symm hq hat hs.b6).mono ?_); clear hs; rintro e w ⟨rfl, hs⟩) | ((with_reducible refine isl ?_); first | ((with_reducible apply ldo hs.b1); exact rfl; exact rfl; exact rfl; exact HYP.out; exact one5) | ((with_reducible apply ldo hs.b2); exact rfl; exact rfl; exact rfl; exact HYP.out; exact one5) | ((with_reducible apply stsw hs.b0); exact rfl; exact rfl; exact rfl; exact rfl; exact row25; exact rfl; exact rfl; exact rfl; clear hs; intro w hs) | ((with_reducible apply stsw hs.b1); exact rfl; exact rfl; exact rfl; exact rfl; exact row25; exact rfl; exact rfl; exact rfl; clear hs; intro w hs) | ((with_reducible apply stsw hs.b2); exact rfl; exact rfl; exact rfl; exact rfl; exact row25; exact rfl; exact rfl; exact rfl; clear hs; intro w hs) | ((with_reducible apply stsw hs.b3); exact rfl; exact rfl; exact rfl; exact rfl; exact row25; exact rfl; exact rfl; exact rfl; clear hs; intro w hs) | ((with_reducible apply stsw hs.b4); exact rfl; exact rfl; exact rfl; exact rfl; exact row25; exact rfl; exact rfl; exact rfl; clear hs; intro w hs) | ((with_reducible apply stsw hs.b5); exact rfl; exact rfl; exact rfl; exact rfl; exact row25; exact rfl; exact rfl; exact rfl; clear hs; intro w hs) | ((with_reducible refine wrap hs ?_); clear hs; generalize w.heap.size = z8; intro w hs) | ((with_reducible apply ld hs.b0); exact rfl; exact rfl; exact rfl; exact rfl; kernel_rfl) | ((with_reducible apply ld hs.b1); exact rfl; exact rfl; exact rfl; exact rfl; kernel_rfl) | ((with_reducible apply ld hs.b2); exact rfl; exact rfl; exact rfl; exact rfl; kernel_rfl) | ((with_reducible apply ld hs.b3); exact rfl; exact rfl; exact rfl; exact rfl; kernel_rfl) | ((with_reducible apply ld hs.b4); exact rfl; exact rfl; exact rfl; exact rfl; kernel_rfl) | ((with_reducible apply st hs.b0); exact rfl; exact rfl; exact rfl; exact rfl; exact rfl; exact rfl; kernel_rfl; exact rfl; clear hs; intro w hs) | ((with_reducible apply st hs.b1); exact rfl; exact rfl; exact rfl; exact rfl; exact rfl; exact rfl; kernel_rfl; exact rfl; clear hs; intro w hs) | ((with_reducible apply st hs.b2); exact rfl; exact rfl; exact rfl; exact rfl; exact rfl; exact rfl; kernel_rfl; exact rfl; clear hs; intro w hs) | ((with_reducible apply st hs.b3); exact rfl; exact rfl; exact rfl; exact rfl; exact rfl; exact rfl; kernel_rfl; exact rfl; clear hs; intro w hs) | ((with_reducible apply st hs.b4); exact rfl; exact rfl; exact rfl; exact rfl; exact rfl; exact rfl; kernel_rfl; exact rfl; clear hs; intro w hs) | ((with_reducible apply stc hs.b0); exact rfl; exact rfl; exact rfl; exact rfl; exact rfl; kernel_rfl; exact rfl; clear hs; intro w hs) | ((with_reducible apply stc hs.b1); exact rfl; exact rfl; exact rfl; exact rfl; exact rfl; kernel_rfl; exact rfl; clear hs; intro w hs) | ((with_reducible apply stc hs.b2); exact rfl; exact rfl; exact rfl; exact rfl; exact rfl; kernel_rfl; exact rfl; clear hs; intro w hs) | ((with_reducible apply stc hs.b3); exact rfl; exact rfl; exact rfl; exact rfl; exact rfl; kernel_rfl; exact rfl; clear hs; intro w hs) | ((with_reducible apply stc hs.b4); exact rfl; exact rfl; exact rfl; exact rfl; exact rfl; kernel_rfl; exact rfl; clear hs; intro w hs) | ((with_reducible refine wrap hs ?_); clear hs; intro w hs) | ((with_reducible refine wrapn hs ?_); clear hs; intro w hs) | ((with_reducible refine wrapd hs ?_); clear hs; intro w hs)))
      refine ret_cell_tmp (l := utC y) hs rfl rfl rfl row25 ⟨rfl, ?_⟩
      have h1 := cel_utO hs.b2
      rw [HLA.out, HAT.out]
      have e1 : n - 1 = (q.waits.eraseIdx at_).length := by rw [List.length_eraseIdx, ← HN.out, if_pos hat]
      refine sat.qu_close (q := { q with waits := q.waits.eraseIdx at_, spoken := [y], words := 0 }) (aW := some ⟨g8, 0, none⟩) (cW := c8) (aS := some ⟨z8, 0, none⟩) (cS := 1) ?_
      unfold utO quL
      rw [← e1]
      unfold utO at h1
      (refine sb_from ?_ h1; repeat constructor)
theorem acc11 (hz : 0 < q.size) (hq : q.waits.length ≤ 1000) (hs : sat W (qu b q :: H) w) : Calls Try.prog 11 #[.pointer (some ⟨b, 0, none⟩)] w fun e w' => e = .returned (.tuple #[utV ((accept q).2.getD ut0), .bool (accept q).2.isSome]) ∧ sat W (qu b (accept q).1 :: H) w' := by
  by_cases h0 : 0 < q.waits.length
  · obtain ⟨y, hy⟩ : ∃ y, q.waits[bestAt q.waits]? = some y := ⟨_, List.getElem?_eq_getElem (best_lt (Nat.le_refl _) h0)⟩
    have e : accept q = ({ q with waits := q.waits.eraseIdx (bestAt q.waits), spoken := [y], words := 0 }, some y) := by unfold accept; rw [hy]
    rw [e]
    exact acc11_yes rfl hq hz h0 hy hs
  · have hw : q.waits = [] := List.eq_nil_of_length_eq_zero (by omega)
    have e : accept q = (q, none) := by unfold accept; rw [hw]; rfl
    rw [e]
    refine acc11_len0 (fun K w hs => ?_) hs
    have h := len16 hz hq hs.b1
    rw [hw] at h
    exact h.mono fun _ _ ⟨h1, h2⟩ => ⟨h1, h2.b1⟩
theorem acc11_nil (hs : sat W H w) : Calls Try.prog 11 #[.pointer none] w fun e w' => e = .returned (.tuple #[utV ut0, .bool false]) ∧ sat W H w' := acc11_len0 (fun _ _ h => len16_nil h) hs
theorem acc11_zero (h0 : q.size = 0) (hs : sat W (qu b q :: H) w) : Calls Try.prog 11 #[.pointer (some ⟨b, 0, none⟩)] w fun e w' => e = .returned (.tuple #[utV ut0, .bool false]) ∧ sat W (qu b q :: H) w' :=
  acc11_len0 (fun _ _ h => (len16_zero h0 h.b1).mono fun _ _ ⟨h1, h2⟩ => ⟨h1, h2.b1⟩) hs
end Go.Proofs.Ytinfgebdcjaabaa
