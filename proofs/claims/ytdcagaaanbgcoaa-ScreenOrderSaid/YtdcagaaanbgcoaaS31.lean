/- Law 9: the scrollback is the document's; what is looked at; where an id stands. -/
import Derived.Test.YtdcagaaanbgcoaaSf
import Derived.Test.YtdcagaaanbgcoaaS29
import Derived.Test.YtdcagaaanbgcoaaSs
import Derived.Test.YtdcagaaanbgcoaaS28
namespace Go.Proofs.Ytdcagaaanbgcoaa
open Go.RowKit Go.Mem Go.Cells Go.Lines
variable {W w : World} {H : List HProp}
theorem row102h : rowTy Try.prog 102 2 = true := by kernel_rfl
attribute [local irreducible] rowTy oneTy World.setCell World.setCells World.alloc World.drew World.drewN Calls sat cel own blk old wpQuiet wpList cmb cmb1 rwP cls rws wi wh fst_ World.rangeAt lrw lnP stP lsP dsP lvs frL downL upL pushs dcP Rds scP
section
set_option maxHeartbeats 2000000 in
set_option maxRecDepth 20000 in
theorem kept35 {s v most : Nat} {nx : Int} {L : List LN} (hok : LOK L) (hL : L.length ≤ most) (hm : most ≤ 10000) (h : 0 < nx) (hs : sat W (stP s most nx L :: dsP v nx most L :: H) w) :
    Calls Try.prog 35 #[.pointer (some ⟨s, 0, none⟩), .pointer (some ⟨v, 0, none⟩)] w fun e w' => e = .returned (.bool true) ∧ sat W (stP s most nx L :: dsP v nx most L :: H) w' := by
  obtain ⟨n, hn⟩ : ∃ n, L.length = n := ⟨_, rfl⟩
  rw [hn] at hL
  have HLN := Lib.hid hn
  have HK := Lib.hid hok
  have HM := Lib.hid hm
  have HN1 : Hid (n ≤ 10000) := Lib.hid (by omega)
  obtain ⟨ps, a, c, HO, hs⟩ := ds_open hn hs.b1
  clear hn hok hm hL
  go_enter Try.func35, Try.ntmps35
  go_upto_region 1 with fail
  refine region_mix [([0, 2, 3, 4, 5, 6], [1]), ([7, 8, 9, 11, 12, 13, 14], [10])] [15, 16] hs (fun _ h => by (show sat W [cel v 88 [.int .i64 nx, .int .i64 most, .slice a n c]] _; refine sb_from ?_ h; repeat constructor)) (by kernel_rfl) (by kernel_rfl) (fun _ _ _ _ _ h => h) ?_
  simp only [segs, nths, nth, List.append_nil, List.nil_append, List.cons_append, List.map_cons, List.map_nil]
  refine seg_reads (fun _ h => by (show sat W [cel v 88 [.int .i64 nx, .int .i64 most, .slice a n c]] _; refine sb_from ?_ h; repeat constructor)) ?_; intro X f hne hf hcl; (try simp only [Act.put, List.setIfInBounds_toArray, List.set_cons_succ, List.set_cons_zero]); (repeat ((first | ((with_reducible apply ldqx); exact rfl; exact rfl; exact rfl; (exact fun x => (hf x).b0); exact rfl; kernel_rfl) | go_big_quiet_step (fail)); (try simp only [Act.put, List.setIfInBounds_toArray, List.set_cons_succ, List.set_cons_zero]))); refine wpQuiet_nil ?_; clear hcl hf hne hs f X; intro w hs
  go_wp2_with ((go_at_call 15; refine (len10_st HLN.out h (by (apply sk_from (hs := hs); repeat constructor))).mono ?_; clear hs; rintro e w ⟨rfl, hs⟩))
  (refine seg_on hs (fun _ h => h) ?_ ?_)
  · exact fun _ h => by (show sat W [cel v 88 [.int .i64 nx, .int .i64 most, .slice a n c]] _; refine sb_from ?_ h; repeat constructor)
  clear hs; intro hs
  refine seg_reads (fun _ h => by (show sat W [cel v 88 [.int .i64 nx, .int .i64 most, .slice a n c]] _; refine sb_from ?_ h; repeat constructor)) ?_; intro X f hne hf hcl; (try simp only [Act.put, List.setIfInBounds_toArray, List.set_cons_succ, List.set_cons_zero]); (repeat ((first | ((with_reducible apply ldqx); exact rfl; exact rfl; exact rfl; (exact fun x => (hf x).b0); exact rfl; kernel_rfl) | go_big_quiet_step (fail)); (try simp only [Act.put, List.setIfInBounds_toArray, List.set_cons_succ, List.set_cons_zero]))); refine wpQuiet_nil ?_; clear hcl hf hne hs f X; intro w hs
  go_wp2_with ((go_at_call 28; refine (next11_st h (by (apply sk_from (hs := hs); repeat constructor))).mono ?_; clear hs; rintro e w ⟨rfl, hs⟩))
  (refine seg_on hs (fun _ h => h) ?_ ?_)
  · exact fun _ h => by (show sat W [cel v 88 [.int .i64 nx, .int .i64 most, .slice a n c]] _; refine sb_from ?_ h; repeat constructor)
  clear hs; intro hs
  refine seg_last (fun _ h => by (show sat W [cel v 88 [.int .i64 nx, .int .i64 most, .slice a n c]] _; refine sb_from ?_ h; repeat constructor)) ?_; intro X f hne hf hcl; (try simp only [Act.put, List.setIfInBounds_toArray, List.set_cons_succ, List.set_cons_zero]); (repeat ((go_big_quiet_step (fail)); (try simp only [Act.put, List.setIfInBounds_toArray, List.set_cons_succ, List.set_cons_zero]))); refine wpQuiet_nil ?_; clear hcl hf hne hs f X; intro w hs
  go_wp2_with (((with_reducible refine isl ?_); first | ((with_reducible apply ldx); exact rfl; exact rfl; exact rfl; (exact hs.b1); exact rfl; kernel_rfl)))
  go_loopw [30] (fun i wx => ∃ i0 : Nat, i0 ≤ n ∧ i = .int .i64 (i0 : Int) ∧ sat W (stP s most nx L :: cel v 88 [.int .i64 nx, .int .i64 most, .slice a n c] :: slP 93 (.slice a n c) n (lvs ps).flatten :: lrw 100 ps :: H) wx) (fun i _ => ((n : Int) - intOf i).toNat)
  case atStart => exact ⟨0, Nat.zero_le _, rfl, by refine sb_from ?_ hs; repeat constructor⟩
  case round =>
    clear hs
    obtain ⟨j, hj1, rfl, hs⟩ := hrel
    by_cases hj : j < n
    · have hj2 : (j : Int) < (n : Int) := by omega
      have j63 : (j : Int) ≤ 10000 := by have := HN1.out; omega
      obtain ⟨⟨lid, lb, ll⟩, hx⟩ : ∃ x, ps[j]? = some x := ⟨_, List.getElem?_eq_getElem (by rw [HO.out.2]; exact hj)⟩
      have hx2 : L[j]? = some (lid, ll) := by rw [← HO.out.1, List.getElem?_map, hx]; rfl
      have HXL := Lib.hid hx2
      have HXP := Lib.hid hx
      obtain ⟨m0, m1, m2⟩ := HK.out _ (List.mem_of_getElem? hx2)
      simp only at m0 m1 m2
      obtain ⟨m, hm⟩ : ∃ m, ll.length = m := ⟨_, rfl⟩
      rw [hm] at m0 m1
      have HLL := Lib.hid hm
      have H4 := Lib.hid m2.m4
      obtain ⟨g, off, rfl, _, _, hr⟩ := hs.b2.slP_ptr (by omega)
      have HC1 : Hid (∀ w' H', sat W (slP 93 (.slice (some ⟨g, off, none⟩) n c) n (lvs ps).flatten :: H') w' → w'.cell? ⟨g, off + j * 2, none⟩ = some (.int .i64 lid) ∧ w'.cell? ⟨g, off + j * 2 + 1, none⟩ = some (.pointer (some ⟨lb, 0, none⟩))) := Lib.hid fun w' H' h => by
        obtain ⟨b', off', e, _, _, hr'⟩ := h.slP_ptr (by omega)
        cases e
        exact ⟨range_at (hr' w' h) (lvs_at hx).1, by rw [Nat.add_assoc]; exact range_at (hr' w' h) (lvs_at hx).2⟩
      obtain ⟨qd, ad, pm, hqd, hs3⟩ := rw_open (T := 100) (b := lb) hm (lrw_at hx hs.b3)
      obtain ⟨gd, rfl⟩ := own_ptr m0 hs3.b1
      have HQD : Hid (qd.length = m ∧ qd.map (·.c) = ll) := Lib.hid ⟨by rw [← hm, ← hqd, List.length_map], hqd⟩
      clear hx hx2 hr hm m2 hqd hs
      have hs : sat W (stP s most nx L :: cel v 88 [.int .i64 nx, .int .i64 most, .slice (some ⟨g, off, none⟩) n c] :: slP 93 (.slice (some ⟨g, off, none⟩) n c) n (lvs ps).flatten :: cel lb 100 [.slice (some ⟨gd, 0, none⟩) m pm] :: own 110 6 (.slice (some ⟨gd, 0, none⟩) m pm) m (rws qd).flatten :: cmb qd :: lrw 100 (ps.take j) :: lrw 100 (ps.drop (j + 1)) :: H) wr := by refine sb_from ?_ hs3; repeat constructor
      clear hs3
      go_upto_region 7 with (first | (go_at_call 63; refine (at12 HXL.out HLL.out HK.out HM.out h (by (apply sk_from (hs := hs); repeat constructor))).mono ?_; clear hs; rintro e w ⟨a5, p5, rfl, hs⟩) | ((with_reducible refine isl ?_); first | ((with_reducible refine wrap hs ?_); clear hs; generalize World.heap _ = q at *; generalize q.size = z9; intro w hs) | ((with_reducible apply stswx); exact rfl; exact rfl; exact rfl; (exact hs.b0); exact rfl; exact row102h; exact rfl; exact rfl; exact rfl; clear hs; intro w hs)))
      have hs1 : sat W (cel v 88 [.int .i64 nx, .int .i64 most, .slice (some ⟨g, off, none⟩) n c] :: slP 93 (.slice (some ⟨g, off, none⟩) n c) n (lvs ps).flatten :: cel z9 102 [.int .i64 lid, .slice a5 m p5] :: cls (.slice a5 m p5) ll :: stP s most nx L :: cel lb 100 [.slice (some ⟨gd, 0, none⟩) m pm] :: own 110 6 (.slice (some ⟨gd, 0, none⟩) m pm) m (rws qd).flatten :: cmb qd :: lrw 100 (ps.take j) :: lrw 100 (ps.drop (j + 1)) :: H) w := by refine sb_from ?_ hs; repeat constructor
      clear hs
      have hs := hs1
      clear hs1
      refine region_mix [([0, 1, 2, 3, 4, 5, 6, 7, 8, 9, 10, 11, 12, 13, 14, 15, 16, 17, 18, 19, 20, 21, 22, 23, 24, 25, 26, 27, 28], [29])] [30, 31] hs (fun _ h => by (show sat W [cel v 88 [.int .i64 nx, .int .i64 most, .slice (some ⟨g, off, none⟩) n c], slP 93 (.slice (some ⟨g, off, none⟩) n c) n (lvs ps).flatten, cel z9 102 [.int .i64 lid, .slice a5 m p5], cel lb 100 [.slice (some ⟨gd, 0, none⟩) m pm]] _; refine sb_from ?_ h; repeat constructor)) (by kernel_rfl) (by kernel_rfl) (fun _ _ _ _ _ h => h) ?_
      simp only [segs, nths, nth, List.append_nil, List.nil_append, List.cons_append, List.map_cons, List.map_nil]
      refine seg_reads (fun _ h => by (show sat W [cel v 88 [.int .i64 nx, .int .i64 most, .slice (some ⟨g, off, none⟩) n c], slP 93 (.slice (some ⟨g, off, none⟩) n c) n (lvs ps).flatten, cel z9 102 [.int .i64 lid, .slice a5 m p5], cel lb 100 [.slice (some ⟨gd, 0, none⟩) m pm]] _; refine sb_from ?_ h; repeat constructor)) ?_; intro X f hne hf hcl; (try simp only [Act.put, List.setIfInBounds_toArray, List.set_cons_succ, List.set_cons_zero]); (repeat ((first | (apply ldcq; exact rfl; exact rfl; exact rfl; exact fun y => (HC1.out _ _ (hf y).b1).1; exact one3) | (apply ldcq; exact rfl; exact rfl; exact rfl; exact fun y => (HC1.out _ _ (hf y).b1).2; exact one91) | ((with_reducible apply ldqx); exact rfl; exact rfl; exact rfl; (first | exact fun x => (hf x).b0 | exact fun x => (hf x).b2 | exact fun x => (hf x).b3); exact rfl; kernel_rfl) | go_big_quiet_step (fail)); (try simp only [Act.put, List.setIfInBounds_toArray, List.set_cons_succ, List.set_cons_zero]))); refine wpQuiet_nil ?_; clear hcl hf hne hs f X; intro w hs
      go_wp2_with ((go_at_call 61; refine (same61 HLL.out (by omega) H4.out HQD.out.2 (by (apply sk_from (hs := hs); repeat constructor))).mono ?_; clear hs; rintro e w ⟨rfl, hs⟩))
      (refine seg_on hs (fun _ h => h) ?_ ?_)
      · exact fun _ h => by (show sat W [cel v 88 [.int .i64 nx, .int .i64 most, .slice (some ⟨g, off, none⟩) n c], slP 93 (.slice (some ⟨g, off, none⟩) n c) n (lvs ps).flatten, cel z9 102 [.int .i64 lid, .slice a5 m p5], cel lb 100 [.slice (some ⟨gd, 0, none⟩) m pm]] _; refine sb_from ?_ h; repeat constructor)
      clear hs; intro hs
      refine seg_last (fun _ h => by (show sat W [cel v 88 [.int .i64 nx, .int .i64 most, .slice (some ⟨g, off, none⟩) n c], slP 93 (.slice (some ⟨g, off, none⟩) n c) n (lvs ps).flatten, cel z9 102 [.int .i64 lid, .slice a5 m p5], cel lb 100 [.slice (some ⟨gd, 0, none⟩) m pm]] _; refine sb_from ?_ h; repeat constructor)) ?_; intro X f hne hf hcl; (try simp only [Act.put, List.setIfInBounds_toArray, List.set_cons_succ, List.set_cons_zero]); (repeat ((go_big_quiet_step (fail)); (try simp only [Act.put, List.setIfInBounds_toArray, List.set_cons_succ, List.set_cons_zero]))); refine wpQuiet_nil ?_; clear hcl hf hne hs f X; intro w hs
      go_wp2_with fail
      go_roundw
      case rel =>
        refine ⟨j + 1, by omega, by go_num, ?_⟩
        have h6 := rw_close HQD.out.1 (by refine sb_from ?_ hs; repeat constructor : sat W (cel lb 100 [.slice (some ⟨gd, 0, none⟩) m pm] :: own 110 6 (.slice (some ⟨gd, 0, none⟩) m pm) m (rws qd).flatten :: cmb qd :: lrw 100 (ps.take j) :: lrw 100 (ps.drop (j + 1)) :: stP s most nx L :: cel v 88 [.int .i64 nx, .int .i64 most, .slice (some ⟨g, off, none⟩) n c] :: slP 93 (.slice (some ⟨g, off, none⟩) n c) n (lvs ps).flatten :: H) w)
        rw [HQD.out.2] at h6
        have h7 := lrw_put (l := ps) (i := j) (y := ⟨lid, lb, ll⟩) (by rw [HO.out.2]; exact hj) (by refine sb_from ?_ h6; repeat constructor : sat W (rwP 100 lb ll :: lrw 100 (ps.take j) :: lrw 100 (ps.drop (j + 1)) :: stP s most nx L :: cel v 88 [.int .i64 nx, .int .i64 most, .slice (some ⟨g, off, none⟩) n c] :: slP 93 (.slice (some ⟨g, off, none⟩) n c) n (lvs ps).flatten :: H) w)
        rw [set_same HXP.out] at h7
        refine sb_from ?_ h7; repeat constructor
      case measure => simp [intOf]; omega
    · have hge : ¬ (j : Int) < (n : Int) := by omega
      clear hj
      go_wp2_with (fail)
      go_ret
      exact ⟨rfl, (ds_close HO.out.2 HO.out.1 (by refine sb_from ?_ hs; repeat constructor : sat W (cel v 88 [.int .i64 nx, .int .i64 most, .slice a n c] :: slP 93 (.slice a n c) n (lvs ps).flatten :: lrw 100 ps :: stP s most nx L :: H) wr)).b1⟩
/-- What is looked at. -/
def tameP (rows cols most : Int) (l : List Op) : Prop := rows ≤ 12 ∧ cols ≤ 20 ∧ most ≤ 20 ∧ 0 ≤ most ∧ l.length ≤ 60 ∧ ∀ o ∈ l, o.kind = 6 → o.n ≤ 12 ∧ o.cols ≤ 20
set_option maxRecDepth 20000 in
theorem tame25 {rows cols most : Int} {aS : Option Addr} {nS cS : Nat} {ops : List Op} (S : SR 9 W H aS nS cS (ops.map opL)) (hs : sat W H w) :
    Calls Try.prog 25 #[.int .i64 rows, .int .i64 cols, .int .i64 most, .slice aS nS cS] w fun e w' => ∃ v : Value, e = .returned v ∧ Hid ((v = .bool false ∧ ¬ tameP rows cols most ops) ∨ (v = .bool true ∧ tameP rows cols most ops)) ∧ sat W H w' := by
  have hl : nS = ops.length := by have := S.1; rwa [List.length_map] at this
  have hc : nS ≤ maxLen := by have := S.2.1; have := S.2.2.1; omega
  have n63 : (nS : Int) ≤ 9223372036854775807 := by unfold maxLen at hc; omega
  have HS := Lib.hid S
  have HL := Lib.hid hl
  clear S hl hc
  by_cases h1 : 12 < rows
  · have g1 : decide (12 < rows) = true := decide_eq_true h1
    have HZ : Hid (¬ tameP rows cols most ops) := Lib.hid fun h => by
      obtain ⟨q1, q2, q3, q4, q5, _⟩ := h
      have := HL.out
      omega
    go_enter Try.func25, Try.ntmps25
    go_wp2_with (fail)
    go_ret
    exact ⟨_, rfl, Lib.hid (.inl ⟨rfl, HZ.out⟩), hs⟩
  have g1 : decide (12 < rows) = false := decide_eq_false h1
  by_cases h2 : 20 < cols
  · have g2 : decide (20 < cols) = true := decide_eq_true h2
    have HZ : Hid (¬ tameP rows cols most ops) := Lib.hid fun h => by
      obtain ⟨q1, q2, q3, q4, q5, _⟩ := h
      have := HL.out
      omega
    go_enter Try.func25, Try.ntmps25
    go_wp2_with (fail)
    go_ret
    exact ⟨_, rfl, Lib.hid (.inl ⟨rfl, HZ.out⟩), hs⟩
  have g2 : decide (20 < cols) = false := decide_eq_false h2
  by_cases h3 : 20 < most
  · have g3 : decide (20 < most) = true := decide_eq_true h3
    have HZ : Hid (¬ tameP rows cols most ops) := Lib.hid fun h => by
      obtain ⟨q1, q2, q3, q4, q5, _⟩ := h
      have := HL.out
      omega
    go_enter Try.func25, Try.ntmps25
    go_wp2_with (fail)
    go_ret
    exact ⟨_, rfl, Lib.hid (.inl ⟨rfl, HZ.out⟩), hs⟩
  have g3 : decide (20 < most) = false := decide_eq_false h3
  by_cases h4 : most < 0
  · have g4 : decide (most < 0) = true := decide_eq_true h4
    have HZ : Hid (¬ tameP rows cols most ops) := Lib.hid fun h => by
      obtain ⟨q1, q2, q3, q4, q5, _⟩ := h
      have := HL.out
      omega
    go_enter Try.func25, Try.ntmps25
    go_wp2_with (fail)
    go_ret
    exact ⟨_, rfl, Lib.hid (.inl ⟨rfl, HZ.out⟩), hs⟩
  have g4 : decide (most < 0) = false := decide_eq_false h4
  by_cases h5 : 60 < nS
  · have g5 : decide ((60 : Int) < (nS : Int)) = true := decide_eq_true (by omega)
    have HZ : Hid (¬ tameP rows cols most ops) := Lib.hid fun h => by
      obtain ⟨q1, q2, q3, q4, q5, _⟩ := h
      have := HL.out
      omega
    go_enter Try.func25, Try.ntmps25
    go_wp2_with (fail)
    go_ret
    exact ⟨_, rfl, Lib.hid (.inl ⟨rfl, HZ.out⟩), hs⟩
  have g5 : decide ((60 : Int) < (nS : Int)) = false := decide_eq_false (by omega)
  have HT : Hid (rows ≤ 12 ∧ cols ≤ 20 ∧ most ≤ 20 ∧ 0 ≤ most ∧ ops.length ≤ 60) := Lib.hid ⟨by omega, by omega, by omega, by omega, by have := HL.out; omega⟩
  clear h1 h2 h3 h4 h5
  go_enter Try.func25, Try.ntmps25
  go_wp2_with (fail)
  clear g1 g2 g3 g4 g5
  go_loopw [31] (fun i wx => ∃ i0 : Nat, i0 ≤ nS ∧ i = .int .i64 (i0 : Int) ∧ Hid (∀ (j : Nat) (o : Op), j < i0 → ops[j]? = some o → o.kind = 6 → o.n ≤ 12 ∧ o.cols ≤ 20) ∧ sat W H wx) (fun i _ => ((nS : Int) - intOf i).toNat)
  case atStart => exact ⟨0, Nat.zero_le _, rfl, Lib.hid (fun j o hj => by omega), hs⟩
  case round =>
    clear hs
    obtain ⟨i, hi, rfl, HI, hs⟩ := hrel
    by_cases hin : i < nS
    · have hin2 : (i : Int) < (nS : Int) := by omega
      obtain ⟨⟨kind, at2, n, cc, r, wide, ⟨fg, bg, fl⟩⟩, hx, bo, off, rfl, hr⟩ := HS.out.getm hs hin
      have HX := Lib.hid hx
      have HR0 : Hid (∀ w', sat W H w' → w'.cell? ⟨bo, off + i * 9, none⟩ = some (.int .i64 kind)) := Lib.hid fun w' h => range_at (j := 0) (hr w' h) rfl
      have HR2 : Hid (∀ w', sat W H w' → w'.cell? ⟨bo, off + i * 9 + 2, none⟩ = some (.int .i64 n)) := Lib.hid fun w' h => range_at (j := 2) (hr w' h) rfl
      have HR3 : Hid (∀ w', sat W H w' → w'.cell? ⟨bo, off + i * 9 + 3, none⟩ = some (.int .i64 cc)) := Lib.hid fun w' h => range_at (j := 3) (hr w' h) rfl
      clear hr hx
      have HNX : Hid ((kind = 6 → n ≤ 12 ∧ cc ≤ 20) → ∀ (j : Nat) (o : Op), j < i + 1 → ops[j]? = some o → o.kind = 6 → o.n ≤ 12 ∧ o.cols ≤ 20) := Lib.hid fun h j o hj ho => by
        by_cases hji : j = i
        · subst hji
          rw [HX.out] at ho
          cases ho
          exact h
        · exact HI.out j o (by omega) ho
      by_cases hk : kind = 6
      · subst hk
        by_cases hn : 12 < n
        · have g1 : decide (12 < n) = true := decide_eq_true hn
          go_wp2_with ((apply ldc; exact rfl; exact rfl; exact rfl; (first | exact HR0.out _ hs | exact HR2.out _ hs); exact one3))
          go_ret
          exact ⟨_, rfl, Lib.hid (.inl ⟨rfl, fun h => by
                obtain ⟨_, _, _, _, _, q⟩ := h
                have h1 := q _ (List.mem_of_getElem? HX.out) rfl
                dsimp only at h1
                omega⟩), hs⟩
        · have g1 : decide (12 < n) = false := decide_eq_false hn
          by_cases hc : 20 < cc
          · have g2 : decide (20 < cc) = true := decide_eq_true hc
            go_wp2_with ((apply ldc; exact rfl; exact rfl; exact rfl; (first | exact HR0.out _ hs | exact HR2.out _ hs | exact HR3.out _ hs); exact one3))
            go_ret
            exact ⟨_, rfl, Lib.hid (.inl ⟨rfl, fun h => by
                obtain ⟨_, _, _, _, _, q⟩ := h
                have h1 := q _ (List.mem_of_getElem? HX.out) rfl
                dsimp only at h1
                omega⟩), hs⟩
          · have g2 : decide (20 < cc) = false := decide_eq_false hc
            go_wp2_with ((apply ldc; exact rfl; exact rfl; exact rfl; (first | exact HR0.out _ hs | exact HR2.out _ hs | exact HR3.out _ hs); exact one3))
            go_roundw
            case rel => exact ⟨i + 1, by omega, by go_num, Lib.hid (HNX.out fun _ => ⟨by omega, by omega⟩), hs⟩
            case measure => simp [intOf]; omega
      · have f1 : (kind == 6) = false := beq_eq_false_iff_ne.2 hk
        have f2 : decide (kind = 6) = false := decide_eq_false hk
        go_wp2_with ((apply ldc; exact rfl; exact rfl; exact rfl; (exact HR0.out _ hs); exact one3))
        go_roundw
        case rel => exact ⟨i + 1, by omega, by go_num, Lib.hid (HNX.out fun e => absurd e hk), hs⟩
        case measure => simp [intOf]; omega
    · have hge : ¬ (i : Int) < (nS : Int) := by omega
      obtain rfl : i = nS := by omega
      clear hin
      go_wp2_with fail
      go_ret
      refine ⟨_, rfl, Lib.hid (.inr ⟨rfl, HT.out.1, HT.out.2.1, HT.out.2.2.1, HT.out.2.2.2.1, HT.out.2.2.2.2, fun o ho => ?_⟩), hs⟩
      obtain ⟨j, hj⟩ := List.getElem?_of_mem ho
      exact HI.out j o (by have := (List.getElem?_eq_some_iff.1 hj).1; have := HL.out; omega) hj
/-- Where an id stands. -/
theorem place32 {a1 : Option Addr} {n1 c1 : Nat} {id : Int} {L : List LN} (h5 : n1 ≤ 1000) (R1 : SK .i64 W H a1 n1 c1 (idv L)) (hs : sat W H w) :
    Calls Try.prog 32 #[.slice a1 n1 c1, .int .i64 id] w fun e w' => e = .returned (.int .i64 (ffst L id)) ∧ sat W H w' := by
  have hl := R1.1
  rw [idv_len] at hl
  have HR := Lib.hid R1
  have HL := Lib.hid hl
  obtain ⟨F, hF⟩ : ∃ F, ffst L id = F := ⟨_, rfl⟩
  have HF := Lib.hid hF
  rw [HF.out]
  have hn63 : (n1 : Int) ≤ 1000 := by omega
  clear hF R1 hl h5
  go_enter Try.func32, Try.ntmps32
  go_wp2_with fail
  go_loopw [8] (fun i wx => ∃ i0 : Nat, i0 ≤ n1 ∧ i = .int .i64 (i0 : Int) ∧ Hid (∀ (j : Nat) (y : LN), j < i0 → L[j]? = some y → y.1 ≠ id) ∧ sat W H wx) (fun i _ => ((n1 : Int) - intOf i).toNat)
  case atStart => exact ⟨0, Nat.zero_le _, rfl, Lib.hid (fun j y hj => absurd hj (by omega)), hs⟩
  case round =>
    clear hs
    obtain ⟨i0, hi, rfl, HJ, hs⟩ := hrel
    by_cases hin : i0 < n1
    · have hin2 : (i0 : Int) < (n1 : Int) := by omega
      obtain ⟨⟨xid, xl⟩, hx⟩ : ∃ x, L[i0]? = some x := ⟨_, List.getElem?_eq_getElem (by rw [← HL.out]; exact hin)⟩
      obtain ⟨b1, o1, rfl, q1⟩ := HR.out.get hs hin
      have e1 : (idv L).getD i0 0 = xid := by
        unfold idv
        rw [List.getD_eq_getElem?_getD, List.getElem?_map, hx]
        rfl
      rw [e1] at q1
      have HQ1 := Lib.hid q1
      have HX2 := Lib.hid hx
      clear hx q1 e1
      by_cases hq : xid = id
      · subst hq
        have HE := Lib.hid (ffst_hit HJ.out HX2.out rfl)
        go_wp2_with ((apply ldc; exact rfl; exact rfl; exact rfl; exact HQ1.out _ hs; exact one3))
        go_ret
        exact ⟨by rw [← HF.out, HE.out]; rfl, hs⟩
      · have hq2 : (xid == id) = false := beq_eq_false_iff_ne.2 hq
        go_wp2_with ((apply ldc; exact rfl; exact rfl; exact rfl; exact HQ1.out _ hs; exact one3))
        go_roundw
        case rel => exact ⟨i0 + 1, by omega, by go_num, Lib.hid (fun j y hj hy => by
          by_cases hji : j = i0
          · subst hji
            rw [HX2.out] at hy
            cases hy
            exact hq
          · exact HJ.out j y (by omega) hy), hs⟩
        case measure => simp [intOf]; omega
    · have hge : ¬ (i0 : Int) < (n1 : Int) := by omega
      obtain rfl : i0 = n1 := by omega
      have HE : Hid (F = -1) := Lib.hid (by
        rw [← HF.out]
        refine ffst_none fun j y hy => HJ.out j y ?_ hy
        have h1 := (List.getElem?_eq_some_iff.1 hy).1
        rw [← HL.out] at h1
        exact h1)
      clear hin
      go_wp2_with fail
      go_ret
      exact ⟨by rw [HE.out]; rfl, hs⟩
end
end Go.Proofs.Ytdcagaaanbgcoaa
namespace Go.Proofs.Ytdcagaaanbgcoaa
open Go.RowKit Go.Mem Go.Cells Go.Lines
variable {W w : World} {H : List HProp}
theorem row43 : rowTy Try.prog 43 9 = true := by kernel_rfl
section
variable {most : Nat} {X Y : Sc} {nx ny : Int} {SL SY : List LN} {b s d v mo : Nat} {o : Op}
theorem act_1 (h : o.kind = 1) : act most o X nx SL = aUp most X nx SL o.n o.a := by unfold act; rw [if_pos h]
theorem act_2 (h : o.kind = 2) : act most o X nx SL = aDn X nx SL o.n o.a := by unfold act; rw [if_neg (by omega), if_pos h]
theorem act_3 (h : o.kind = 3) : act most o X nx SL = aIns X nx SL o.at2 o.n o.a := by unfold act; rw [if_neg (by omega), if_neg (by omega), if_pos h]
theorem act_4 (h : o.kind = 4) : act most o X nx SL = aDel X nx SL o.at2 o.n o.a := by unfold act; rw [if_neg (by omega), if_neg (by omega), if_neg (by omega), if_pos h]
theorem act_5 (h : o.kind = 5) : act most o X nx SL = aSet X nx SL o.at2 o.n := by unfold act; rw [if_neg (by omega), if_neg (by omega), if_neg (by omega), if_neg (by omega), if_pos h]
theorem act_6 (h : o.kind = 6) : act most o X nx SL = aRes most X nx SL o.n o.cols o.at2 := by unfold act; rw [if_neg (by omega), if_neg (by omega), if_neg (by omega), if_neg (by omega), if_neg (by omega), if_pos h]
theorem act_7 (h : o.kind = 7) : act most o X nx SL = aPut X nx SL o.at2 o.cols o.r o.wide o.a := by unfold act; rw [if_neg (by omega), if_neg (by omega), if_neg (by omega), if_neg (by omega), if_neg (by omega), if_neg (by omega), if_pos h]
theorem act_x (h : o.kind ≠ 1 ∧ o.kind ≠ 2 ∧ o.kind ≠ 3 ∧ o.kind ≠ 4 ∧ o.kind ≠ 5 ∧ o.kind ≠ 6 ∧ o.kind ≠ 7) : act most o X nx SL = ⟨X, nx, SL, 0, 0⟩ := by
  obtain ⟨h1, h2, h3, h4, h5, h6, h7⟩ := h
  unfold act
  rw [if_neg h1, if_neg h2, if_neg h3, if_neg h4, if_neg h5, if_neg h6, if_neg h7]
/-- A call by both, of any two screens: neither a new size nor a rune. -/
theorem do29_lo (h6 : o.kind ≠ 6) (h7 : o.kind ≠ 7) (hX : Inv most X nx SL) (hY : Inv mo Y ny SY) (nb : nx + 512 ≤ 1000000) (mb : ny + 512 ≤ 1000000) (hmo : most ≤ 10000) (hmo2 : mo ≤ 10000) (hs : sat W (scP b s X :: stP s most nx SL :: dcP d v Y :: dsP v ny mo SY :: H) w) :
    Calls Try.prog 29 #[.pointer (some ⟨b, 0, none⟩), .pointer (some ⟨d, 0, none⟩), .agg #[.int .i64 o.kind, .int .i64 o.at2, .int .i64 o.n, .int .i64 o.cols, .int .i32 o.r, .bool o.wide, .int .u32 o.a.fg, .int .u32 o.a.bg, .int .u16 o.a.fl]] w fun e w' => ∃ vv, e = .returned vv ∧ (Y = X → ny = nx → SY = SL → mo = most → vv = .bool true) ∧ sat W (scP b s (act most o X nx SL).x :: stP s most (act most o X nx SL).nx (act most o X nx SL).sl :: dcP d v (act mo o Y ny SY).x :: dsP v (act mo o Y ny SY).nx mo (act mo o Y ny SY).sl :: H) w' := by
  by_cases k1 : o.kind = 1
  · refine (do29_1 k1 hX hY nb mb hmo hmo2 hs).mono ?_
    rintro e w' ⟨rfl, h⟩
    rw [act_1 k1, act_1 k1]
    exact ⟨_, rfl, fun _ _ _ _ => rfl, h⟩
  by_cases k2 : o.kind = 2
  · refine (do29_2 k2 hX hY nb mb hmo hmo2 hs).mono ?_
    rintro e w' ⟨rfl, h⟩
    rw [act_2 k2, act_2 k2]
    exact ⟨_, rfl, fun _ _ _ _ => rfl, h⟩
  by_cases k3 : o.kind = 3
  · refine (do29_3 k3 hX hY nb mb hmo hmo2 hs).mono ?_
    rintro e w' ⟨rfl, h⟩
    rw [act_3 k3, act_3 k3]
    exact ⟨_, rfl, fun h1 h2 h3 h4 => by subst h1 h2 h3; rw [decide_eq_true rfl], h⟩
  by_cases k4 : o.kind = 4
  · refine (do29_4 k4 hX hY nb mb hmo hmo2 hs).mono ?_
    rintro e w' ⟨rfl, h⟩
    rw [act_4 k4, act_4 k4]
    exact ⟨_, rfl, fun h1 h2 h3 h4 => by subst h1 h2 h3; rw [decide_eq_true rfl], h⟩
  by_cases k5 : o.kind = 5
  · refine (do29_5 k5 hX hY nb mb hmo hmo2 hs).mono ?_
    rintro e w' ⟨rfl, h⟩
    rw [act_5 k5, act_5 k5]
    exact ⟨_, rfl, fun h1 h2 h3 h4 => by subst h1 h2 h3; rw [decide_eq_true rfl], h⟩
  · refine (do29_x ⟨k1, k2, k3, k4, k5, h6, h7⟩ hs).mono ?_
    rintro e w' ⟨rfl, h⟩
    rw [act_x ⟨k1, k2, k3, k4, k5, h6, h7⟩, act_x ⟨k1, k2, k3, k4, k5, h6, h7⟩]
    exact ⟨_, rfl, fun _ _ _ _ => rfl, h⟩
/-- A call by both, of the same screens. -/
theorem do29_all (hX : Inv most X nx SL) (nb : nx + 512 ≤ 1000000) (hmo : most ≤ 10000) (hs : sat W (scP b s X :: stP s most nx SL :: dcP d v X :: dsP v nx most SL :: H) w) :
    Calls Try.prog 29 #[.pointer (some ⟨b, 0, none⟩), .pointer (some ⟨d, 0, none⟩), .agg #[.int .i64 o.kind, .int .i64 o.at2, .int .i64 o.n, .int .i64 o.cols, .int .i32 o.r, .bool o.wide, .int .u32 o.a.fg, .int .u32 o.a.bg, .int .u16 o.a.fl]] w fun e w' => e = .returned (.bool true) ∧ sat W (scP b s (act most o X nx SL).x :: stP s most (act most o X nx SL).nx (act most o X nx SL).sl :: dcP d v (act most o X nx SL).x :: dsP v (act most o X nx SL).nx most (act most o X nx SL).sl :: H) w' := by
  by_cases k6 : o.kind = 6
  · rw [act_6 k6]
    exact do29_6 k6 hX nb hmo hs
  by_cases k7 : o.kind = 7
  · rw [act_7 k7]
    unfold aPut
    by_cases hc : o.at2 < 0 ∨ (X.L.length : Int) ≤ o.at2
    · rw [if_pos hc]
      exact do29_7_out k7 hX nb hmo hc hs
    · rw [if_neg hc]
      obtain ⟨i, hi⟩ : ∃ i : Nat, o.at2 = (i : Int) := ⟨o.at2.toNat, by omega⟩
      have hl : i < X.L.length := by omega
      obtain ⟨⟨id, l⟩, hx⟩ : ∃ x, X.L[i]? = some x := ⟨_, List.getElem?_eq_getElem hl⟩
      have e : X.L[o.at2.toNat]? = some (id, l) := by rw [hi, Int.toNat_natCast]; exact hx
      rw [e]
      dsimp only
      rw [show o.at2.toNat = i from by omega]
      exact do29_7_in k7 hX nb hmo hx hi hs
  · refine (do29_lo k6 k7 hX hX nb nb hmo hmo hs).mono ?_
    rintro e w' ⟨vv, rfl, h1, h⟩
    exact ⟨by rw [h1 rfl rfl rfl rfl], h⟩
theorem inv_new {rows cols : Nat} {keeps : Bool} (r0 : 1 ≤ rows) (r1 : rows ≤ 12) (c0 : 1 ≤ cols) (c1 : cols ≤ 20) : Inv most ⟨keeps, cols, 0, (rows : Int) - 1, frL rows 1 (frC cols At.z)⟩ (1 + (rows : Int)) [] := by
  have hid : ∀ x ∈ frL rows 1 (frC cols At.z), 1 ≤ x.1 ∧ x.1 < 1 + (rows : Int) := fun x hx => frL_id (mem_idv hx)
  refine ⟨by rw [frL_len]; omega, by rw [frL_len]; omega, c0, c1, fun x hx => ?_, hid, frL_nd _ _ _, Int.le_refl _, by dsimp only; omega, by rw [frL_len]; dsimp only; omega, by omega, Nat.zero_le _, (fun x hx => by cases hx), (fun x hx => by cases hx), (fun x _ y hy => by cases hy)⟩
  unfold frL at hx
  obtain ⟨j, _, rfl⟩ := List.mem_map.1 hx
  exact ⟨frC_len _ _, frC_ok _ _⟩
end
attribute [local irreducible] rowTy oneTy World.setCell World.setCells World.alloc World.drew World.drewN Calls sat cel own blk old wpQuiet wpList cmb cmb1 rwP cls rws wi wh fst_ World.rangeAt lrw lnP stP lsP dsP lvs frL downL upL pushs dcP Rds scP act
set_option maxHeartbeats 4000000 in
set_option maxRecDepth 20000 in
theorem plays6 {rows cols most : Int} {keeps : Bool} {aS : Option Addr} {nS cS : Nat} {ops : List Op} (S : SR 9 W H aS nS cS (ops.map opL)) (hs : sat W H w) :
    Calls Try.prog 6 #[.int .i64 rows, .int .i64 cols, .int .i64 most, .bool keeps, .slice aS nS cS] w fun e w' => e = .returned (.bool true) ∧ sat W H w' := by
  have HS := Lib.hid S
  have hl : nS = ops.length := by have := S.1; rwa [List.length_map] at this
  have HL := Lib.hid hl
  clear S hl
  by_cases hT : tameP rows cols most ops
  case neg =>
    have HF := Lib.hid hT
    go_enter Try.func6, Try.ntmps6
    go_wp2_with (first | (go_at_call 25; refine (tame25 HS.out hs).mono ?_; clear hs; rintro e w ⟨tv, rfl, HT, hs⟩; obtain rfl : tv = .bool false := HT.out.elim (fun h => h.1) (fun h => absurd h.2 HF.out)) | (go_at_call 7; refine (known7 (by (apply sk_from (hs := hs); repeat constructor))).mono ?_; clear hs; rintro e w ⟨rfl, hs⟩))
    go_ret
    exact ⟨rfl, hs⟩
  have HTT := Lib.hid hT
  obtain ⟨t1, t2, t3, t4, t5, t6⟩ := hT
  obtain ⟨M, rfl⟩ : ∃ M : Nat, most = (M : Int) := ⟨most.toNat, by omega⟩
  have HM : Hid (M ≤ 10000 ∧ nS ≤ 60) := Lib.hid (by have := HL.out; omega)
  have HT6 := Lib.hid t6
  have hmax : (nS : Int) ≤ 1000 := by have := HL.out; omega
  by_cases hm : (1 ≤ rows ∧ rows ≤ 512) ∧ (1 ≤ cols ∧ cols ≤ 512)
  case neg =>
    have HMM := Lib.hid hm
    by_cases hr : 1 ≤ rows ∧ rows ≤ 512
    · have H1 := Lib.hid (show decide (1 ≤ rows ∧ rows ≤ 512) = true from decide_eq_true hr)
      have H2 := Lib.hid (show decide (1 ≤ cols ∧ cols ≤ 512) = false from decide_eq_false fun h => hm ⟨hr, h⟩)
      clear hm hr t1 t2 t3 t4 t5 t6
      go_enter Try.func6, Try.ntmps6
      go_wp2_with (first | (go_at_call 25; refine (tame25 HS.out hs).mono ?_; clear hs; rintro e w ⟨tv, rfl, HT, hs⟩; obtain rfl : tv = .bool true := HT.out.elim (fun h => absurd HTT.out h.2) (fun h => h.1)) | (go_at_call 8; refine (smade8_no (most := M) HMM.out HM.out.1 hs).mono ?_; clear hs; rintro e w ⟨s, rfl, hs⟩) | (go_at_call 33; (first | refine (may33 (x := rows) H1 hs).mono ?_ | refine (may33 (x := cols) H2 hs).mono ?_); clear hs; rintro e w ⟨rfl, hs⟩) | (go_at_call 7; refine (known7 (by (apply sk_from (hs := hs); repeat constructor))).mono ?_; clear hs; rintro e w ⟨rfl, hs⟩))
      go_ret
      exact ⟨rfl, hs.drop⟩
    · have H1 := Lib.hid (show decide (1 ≤ rows ∧ rows ≤ 512) = false from decide_eq_false hr)
      have H2 : Hid True := Lib.hid trivial
      clear hm hr t1 t2 t3 t4 t5 t6
      go_enter Try.func6, Try.ntmps6
      go_wp2_with (first | (go_at_call 25; refine (tame25 HS.out hs).mono ?_; clear hs; rintro e w ⟨tv, rfl, HT, hs⟩; obtain rfl : tv = .bool true := HT.out.elim (fun h => absurd HTT.out h.2) (fun h => h.1)) | (go_at_call 8; refine (smade8_no (most := M) HMM.out HM.out.1 hs).mono ?_; clear hs; rintro e w ⟨s, rfl, hs⟩) | (go_at_call 33; (refine (may33 (x := rows) H1 hs).mono ?_); clear hs; rintro e w ⟨rfl, hs⟩) | (go_at_call 7; refine (known7 (by (apply sk_from (hs := hs); repeat constructor))).mono ?_; clear hs; rintro e w ⟨rfl, hs⟩))
      go_ret
      exact ⟨rfl, hs.drop⟩
  obtain ⟨N, rfl⟩ : ∃ N : Nat, rows = (N : Int) := ⟨rows.toNat, by omega⟩
  obtain ⟨K, rfl⟩ : ∃ K : Nat, cols = (K : Int) := ⟨cols.toNat, by omega⟩
  have H1 := Lib.hid (show decide (1 ≤ (N : Int) ∧ (N : Int) ≤ 512) = true from decide_eq_true hm.1)
  have H2 := Lib.hid (show decide (1 ≤ (K : Int) ∧ (K : Int) ≤ 512) = true from decide_eq_true hm.2)
  have HB : Hid (1 ≤ N ∧ N ≤ 12 ∧ 1 ≤ K ∧ K ≤ 20 ∧ N ≤ 512 ∧ K ≤ 512) := Lib.hid (by omega)
  clear hm t1 t2 t3 t4 t5 t6
  go_enter Try.func6, Try.ntmps6
  go_wp2_with (first | (go_at_call 25; refine (tame25 HS.out hs).mono ?_; clear hs; rintro e w ⟨tv, rfl, HT, hs⟩; obtain rfl : tv = .bool true := HT.out.elim (fun h => absurd HTT.out h.2) (fun h => h.1)) | (go_at_call 8; refine (smade8 (rows := N) (cols := K) (most := M) HB.out.1 HB.out.2.2.2.2.1 HB.out.2.2.1 HB.out.2.2.2.2.2 HM.out.1 hs).mono ?_; clear hs; rintro e w ⟨b, s, rfl, hs⟩) | (go_at_call 33; (first | refine (may33 (x := (N : Int)) H1 hs).mono ?_ | refine (may33 (x := (K : Int)) H2 hs).mono ?_); clear hs; rintro e w ⟨rfl, hs⟩) | (go_at_call 27; refine (rnew18 (most := M) (by (apply sk_from (hs := hs); repeat constructor))).mono ?_; clear hs; rintro e w ⟨v, rfl, hs⟩) | (go_at_call 26; refine (dnew26 (N := N) (cols := K) (v := v) (most := M) (SL := []) (nx := 1) (keeps := keeps) HB.out.2.2.2.2.1 HB.out.2.2.1 HB.out.2.2.2.2.2 (by decide) (by decide) (by (apply sk_from (hs := hs); repeat constructor))).mono ?_; clear hs; rintro e w ⟨d, rfl, hs⟩))
  have hs1 : sat W (scP b s ⟨keeps, K, 0, (N : Int) - 1, frL N 1 (frC K At.z)⟩ :: stP s M (1 + (N : Int)) [] :: dcP d v ⟨keeps, K, 0, (N : Int) - 1, frL N 1 (frC K At.z)⟩ :: dsP v (1 + (N : Int)) M [] :: H) w := by refine sb_from ?_ hs; repeat constructor
  clear hs
  have hs := hs1
  clear hs1
  go_loopw [62] (fun i wx => ∃ (i0 : Nat) (X : Sc) (nx : Int) (SL : List LN), i0 ≤ nS ∧ i = .int .i64 (i0 : Int) ∧ Hid (Inv M X nx SL) ∧ Hid (nx ≤ 13 + 12 * (i0 : Int)) ∧ sat W (scP b s X :: stP s M nx SL :: dcP d v X :: dsP v nx M SL :: H) wx) (fun i _ => ((nS : Int) - intOf i).toNat)
  case atStart => exact ⟨0, _, _, _, Nat.zero_le _, rfl, Lib.hid (inv_new HB.out.1 HB.out.2.1 HB.out.2.2.1 HB.out.2.2.2.1), Lib.hid (by have := HB.out; omega), hs⟩
  case round =>
    clear hs
    obtain ⟨i0, X, nx, SL, hi, rfl, HI, HX, hs⟩ := hrel
    by_cases hin : i0 < nS
    · obtain ⟨⟨kind, at2, n, cc, r, wide, ⟨fg, bg, fl⟩⟩, hx, g1, o1, rfl, hcc⟩ := HS.out.getm (hs.dropN 4) hin
      have HCC := Lib.hid hcc
      have hin2 : (i0 : Int) < (nS : Int) := by omega
      have HNB : Hid (nx + 512 ≤ 1000000) := Lib.hid (by have h1 := HX.out; have h2 := HM.out.2; omega)
      have HIA := Lib.hid (HI.out.nxt (o := ⟨kind, at2, n, cc, r, wide, ⟨fg, bg, fl⟩⟩) (fun h => HT6.out _ (List.mem_of_getElem? hx) h))
      have HSL := Lib.hid (HIA.out.1.slk)
      clear hcc hx
      obtain ⟨R, hR⟩ : ∃ R, act M ⟨kind, at2, n, cc, r, wide, ⟨fg, bg, fl⟩⟩ X nx SL = R := ⟨_, rfl⟩
      have HR := Lib.hid hR
      rw [hR] at HIA HSL
      clear hR
      go_wp2_with (first | (go_at_call 29; refine (do29_all (o := ⟨kind, at2, n, cc, r, wide, ⟨fg, bg, fl⟩⟩) HI.out HNB.out HM.out.1 (by (apply sk_from (hs := hs); repeat constructor))).mono ?_; clear hs; rintro e w ⟨rfl, hs⟩; rw [HR.out] at hs) | (go_at_call 34; refine (same34 HIA.out.1 (by (apply sk_from (hs := hs); repeat constructor))).mono ?_; clear hs; rintro e w ⟨rfl, hs⟩) | (go_at_call 35; refine (kept35 HSL.out HIA.out.1.sl HM.out.1 HIA.out.1.nx0 (by (apply sk_from (hs := hs); repeat constructor))).mono ?_; clear hs; rintro e w ⟨rfl, hs⟩) | ((with_reducible refine isl ?_); first | ((with_reducible apply ldsc (cs := opL ⟨kind, at2, n, cc, r, wide, ⟨fg, bg, fl⟩⟩)); exact rfl; exact rfl; exact rfl; exact HCC.out _ (hs.dropN 4); exact row43) | ((with_reducible refine wrap hs ?_); clear hs; generalize wr.heap.size = z9; intro w hs) | ((with_reducible apply stswx); exact rfl; exact rfl; exact rfl; (exact hs.b0); exact rfl; exact row43; exact rfl; exact rfl; exact rfl; clear hs; intro w hs) | ((with_reducible apply ldsx 9); exact rfl; exact rfl; exact rfl; (first | exact hs.b0 | exact hs.b4); exact row43; exact rfl; exact rfl) | ((with_reducible apply ldx); exact rfl; exact rfl; exact rfl; (exact hs.b4); exact rfl; kernel_rfl)))
      go_roundw
      case rel => exact ⟨i0 + 1, R.x, R.nx, R.sl, by omega, by go_num, Lib.hid HIA.out.1, Lib.hid (by have h1 := HIA.out.2.2.2; have h2 := HX.out; push_cast; omega), by refine sb_from ?_ hs; repeat constructor⟩
      case measure => simp [intOf]; omega
    · have hge : ¬ (i0 : Int) < (nS : Int) := by omega
      have HSL := Lib.hid (HI.out.slk)
      clear hin
      go_wp2_with (first | (go_at_call 34; refine (same34 HI.out (by (apply sk_from (hs := hs); repeat constructor))).mono ?_; clear hs; rintro e w ⟨rfl, hs⟩) | (go_at_call 35; refine (kept35 HSL.out HI.out.sl HM.out.1 HI.out.nx0 (by (apply sk_from (hs := hs); repeat constructor))).mono ?_; clear hs; rintro e w ⟨rfl, hs⟩) | (go_at_call 7; refine (known7 (by (apply sk_from (hs := hs); repeat constructor))).mono ?_; clear hs; rintro e w ⟨rfl, hs⟩))
      go_ret
      exact ⟨rfl, hs.dropN 4⟩
end Go.Proofs.Ytdcagaaanbgcoaa
