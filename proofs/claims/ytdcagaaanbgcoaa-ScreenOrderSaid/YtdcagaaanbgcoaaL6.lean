/- Law 8: the store's methods. -/
import Derived.Test.YtdcagaaanbgcoaaSf
import Derived.Test.YtdcagaaanbgcoaaL3
namespace Go.Proofs.Ytdcagaaanbgcoaa
open Go.RowKit Go.Mem Go.Cells Go.Lines
variable {W w : World} {H : List HProp}
attribute [local irreducible] rowTy oneTy World.setCell World.setCells World.alloc World.drew World.drewN Calls sat cel own blk old wpQuiet wpList cmb cmb1 rwP cls rws wi wh fst_ World.rangeAt lrw lnP stP lsP dsP lvs
theorem len10 {b n p : Nat} {a : Option Addr} {v0 v1 : Value} {nx : Int} (h : 0 < nx) (hs : sat W (cel b 76 [v0, v1, .slice a n p, .int .i64 nx] :: H) w) : Calls Try.prog 15 #[.pointer (some ⟨b, 0, none⟩)] w fun e w' => e = .returned (.int .i64 n) ∧ sat W (cel b 76 [v0, v1, .slice a n p, .int .i64 nx] :: H) w' := by
  go_enter Try.func15, Try.ntmps15
  go_wp2_with (first | (go_at_call 42; refine (ready27 h (by (apply sk_from (hs := hs); repeat constructor))).mono ?_; clear hs; rintro e w ⟨rfl, hs⟩) | ((with_reducible refine isl ?_); first | ((with_reducible apply ldx); exact rfl; exact rfl; exact rfl; exact hs.b0; exact rfl; kernel_rfl)))
  go_ret
  exact ⟨rfl, hs⟩
theorem next11 {b : Nat} {v0 v1 v2 : Value} {nx : Int} (h : 0 < nx) (hs : sat W (cel b 76 [v0, v1, v2, .int .i64 nx] :: H) w) : Calls Try.prog 28 #[.pointer (some ⟨b, 0, none⟩)] w fun e w' => e = .returned (.int .i64 nx) ∧ sat W (cel b 76 [v0, v1, v2, .int .i64 nx] :: H) w' := by
  go_enter Try.func28, Try.ntmps28
  go_wp2_with (first | (go_at_call 42; refine (ready27 h (by (apply sk_from (hs := hs); repeat constructor))).mono ?_; clear hs; rintro e w ⟨rfl, hs⟩) | ((with_reducible refine isl ?_); first | ((with_reducible apply ldx); exact rfl; exact rfl; exact rfl; exact hs.b0; exact rfl; kernel_rfl)))
  go_ret
  exact ⟨rfl, hs⟩
theorem len10_st {b most : Nat} {nx : Int} {L : List LN} {n : Nat} (hL : L.length = n) (h : 0 < nx) (hs : sat W (stP b most nx L :: H) w) : Calls Try.prog 15 #[.pointer (some ⟨b, 0, none⟩)] w fun e w' => e = .returned (.int .i64 n) ∧ sat W (stP b most nx L :: H) w' := by
  obtain ⟨first, n2, ps, a, p, HO, hn, hf, hs⟩ := st_open hs
  exact (len10 h hs).mono fun e w' ⟨he, hs⟩ => ⟨by rw [he, ← hL, HO.out.sz], HO.out.close hs⟩
theorem next11_st {b most : Nat} {nx : Int} {L : List LN} (h : 0 < nx) (hs : sat W (stP b most nx L :: H) w) : Calls Try.prog 28 #[.pointer (some ⟨b, 0, none⟩)] w fun e w' => e = .returned (.int .i64 nx) ∧ sat W (stP b most nx L :: H) w' := by
  obtain ⟨first, n2, ps, a, p, HO, hn, hf, hs⟩ := st_open hs
  exact (next11 h hs).mono fun e w' ⟨he, hs⟩ => ⟨he, HO.out.close hs⟩
theorem new6 {most : Nat} (h : most ≤ 10000) (hs : sat W H w) : Calls Try.prog 36 #[.int .i64 (most : Int)] w fun e w' => ∃ b, e = .returned (.tuple #[.pointer (some ⟨b, 0, none⟩), .int .i64 0]) ∧ sat W (stP b most 1 [] :: H) w' := by
  have g1 : decide ((most : Int) < 0) = false := decide_eq_false (by omega)
  have g2 : decide ((10000 : Int) < (most : Int)) = false := decide_eq_false (by omega)
  go_enter Try.func36, Try.ntmps36
  go_wp2_with (fail)
  refine end_ret rfl (results_tmp2 rfl _ _ _) ?_
  exact ⟨_, rfl, st_mk hs.made⟩
theorem new6_no {k : Int} (h : ¬ (0 ≤ k ∧ k ≤ 10000)) (hs : sat W H w) : Calls Try.prog 36 #[.int .i64 k] w fun e w' => e = .returned (.tuple #[.pointer none, .int .i64 2]) ∧ sat W H w' := by
  by_cases h1 : k < 0
  · have g1 : decide (k < 0) = true := decide_eq_true h1
    clear h
    go_enter Try.func36, Try.ntmps36
    go_wp2_with (fail)
    refine end_ret rfl (results_tmp2 rfl _ _ _) ?_
    exact ⟨rfl, hs⟩
  · have g1 : decide (k < 0) = false := decide_eq_false h1
    have g2 : decide ((10000 : Int) < k) = true := decide_eq_true (by omega)
    clear h
    go_enter Try.func36, Try.ntmps36
    go_wp2_with (fail)
    refine end_ret rfl (results_tmp2 rfl _ _ _) ?_
    exact ⟨rfl, hs⟩
/-- Lines that may be. -/
def LOK (L : List LN) : Prop := ∀ x ∈ L, 0 < x.2.length ∧ x.2.length ≤ 512 ∧ Ok x.2
theorem at12 {b most i m : Nat} {nx id : Int} {L : List LN} {l : List C} (hx : L[i]? = some (id, l)) (hl : l.length = m) (hok : LOK L) (hm : most ≤ 10000) (h : 0 < nx) (hs : sat W (stP b most nx L :: H) w) :
    Calls Try.prog 63 #[.pointer (some ⟨b, 0, none⟩), .int .i64 (i : Int)] w fun e w' => ∃ a p, e = .returned (.tuple #[.agg #[.int .i64 id, .slice a m p], .int .i64 0]) ∧ sat W (cls (.slice a m p) l :: stP b most nx L :: H) w' := by
  obtain ⟨m0, m1, m2⟩ := hok _ (List.mem_of_getElem? hx)
  simp only at m0 m1 m2
  rw [hl] at m0 m1
  have H4 := Lib.hid m2.m4
  have HLL := Lib.hid hl
  clear hok m2 hl
  obtain ⟨first, n, ps, a, p, HO, hn, hf, hs⟩ := st_open hs
  have hi : i < n := by have h1 := (List.getElem?_eq_some_iff.1 hx).1; rw [HO.out.sz] at h1; exact h1
  obtain ⟨⟨id2, b2, l2⟩, hx1, hx2⟩ := HO.out.at hi
  rw [hx] at hx2
  obtain ⟨rfl, rfl⟩ : id2 = id ∧ l2 = l := by
    have h1 := Option.some.inj hx2
    exact ⟨(congrArg Prod.fst h1).symm, (congrArg Prod.snd h1).symm⟩
  obtain ⟨g, rfl⟩ := own_ptr (by omega) hs.b1
  have HX := Lib.hid hx1
  have HXL := Lib.hid hx
  obtain ⟨j, hj⟩ : ∃ j, (first + i) % n = j := ⟨_, rfl⟩
  have HJ := Lib.hid hj
  have g1 : decide ((i : Int) < 0) = false := decide_eq_false (by omega)
  have g2 : decide ((n : Int) ≤ (i : Int)) = false := decide_eq_false (by omega)
  have h1n : n ≤ 10000 := by omega
  have hs3 := lrw_at (i := j) (by rw [← HJ.out]; exact hx1) hs.b2
  clear hx hx2 hx1 hj
  replace hs : sat W (cel b 76 [.int .i64 most, .int .i64 first, .slice (some ⟨g, 0, none⟩) n p, .int .i64 nx] :: own 81 2 (.slice (some ⟨g, 0, none⟩) n p) n (lvs ps).flatten :: rwP 96 b2 l2 :: lrw 96 (ps.take j) :: lrw 96 (ps.drop (j + 1)) :: H) w := by refine sb_from ?_ hs3; repeat constructor
  clear hs3
  go_enter Try.func63, Try.ntmps63
  go_upto_region 6 with (first | (go_at_call 42; refine (ready27 h (by (apply sk_from (hs := hs); repeat constructor))).mono ?_; clear hs; rintro e w ⟨rfl, hs⟩) | (go_at_call 59; refine (get33 HX.out hi hf h1n (by (apply sk_from (hs := hs); repeat constructor))).mono ?_; clear hs; rintro e w ⟨rfl, hs⟩) | ((with_reducible refine isl ?_); first | ((with_reducible apply stswx); exact rfl; exact rfl; exact rfl; (exact hs.b0); exact rfl; exact row29; exact rfl; exact rfl; exact rfl; clear hs; intro w hs) | ((with_reducible apply ldx); exact rfl; exact rfl; exact rfl; (exact hs.b0); exact rfl; kernel_rfl) | ((with_reducible refine wrap hs ?_); clear hs; (first | (have _t := z4; clear _t; generalize w.heap.size = z5) | generalize w.heap.size = z4); intro w hs)))
  refine L_begin 7 7 [cel z5 81 [.int .i64 id2, .pointer (some ⟨b2, 0, none⟩)]] [cel z5 81 [.int .i64 id2, .pointer (some ⟨b2, 0, none⟩)]] hs (fun _ h => by (refine sb_from ?_ h; repeat constructor)) (fun _ h => by (refine sb_from ?_ h; repeat constructor)) (by kernel_rfl) ?_; clear hs; intro w hs hd
  refine L_reads2 [0, 1, 2, 3] #[true, true, true, true, false, false, false, false] (fuel := 4) hd (by kernel_rfl) (fun _ _ _ _ _ h => h) ?_; clear hd; intro X f hne hf hcl hd; simp only [nths, nth, List.append_nil, List.nil_append, List.cons_append]; (try simp only [Act.put, List.setIfInBounds_toArray, List.set_cons_succ, List.set_cons_zero]); (repeat ((first | ((with_reducible apply ldqx); exact rfl; exact rfl; exact rfl; (exact fun x => (hf x).b0); exact rfl; kernel_rfl) | go_big_quiet_step (fail)); (try simp only [Act.put, List.setIfInBounds_toArray, List.set_cons_succ, List.set_cons_zero]))); refine wpQuiet_nil ?_; clear hcl hf hne f X
  refine L_each [4] (by kernel_rfl) ⟨?_, trivial⟩
  simp only [nth]
  go_wp2_with (go_at_call 62; refine (cells11 HLL.out m0 (by omega) H4.out (by (apply sk_from (hs := hs); repeat constructor))).mono ?_; clear hs; rintro e w ⟨ar, pr, rfl, hs⟩)
  (refine on_now hs ?_); clear hs; intro hs
  refine L_on [cel z5 81 [.int .i64 id2, .pointer (some ⟨b2, 0, none⟩)]] [cel z5 81 [.int .i64 id2, .pointer (some ⟨b2, 0, none⟩)]] #[true, true, true, true, true, false, false, false] (fuel := 3) hs (by kernel_rfl) (fun _ h => h) (fun _ h => h) (fun _ => by (refine sb_from ?_ hs; repeat constructor)) (fun _ => by (refine sb_from ?_ hs; repeat constructor)) ?_; clear hd hs; intro hd hs
  refine L_reads2 [5] #[true, true, true, true, true, true, false, false] (fuel := 2) hd (by kernel_rfl) (fun _ _ _ _ _ h => h) ?_; clear hd; intro X f hne hf hcl hd; simp only [nths, nth, List.append_nil, List.nil_append, List.cons_append]; (try simp only [Act.put, List.setIfInBounds_toArray, List.set_cons_succ, List.set_cons_zero]); (repeat ((go_big_quiet_step (fail)); (try simp only [Act.put, List.setIfInBounds_toArray, List.set_cons_succ, List.set_cons_zero]))); refine wpQuiet_nil ?_; clear hcl hf hne f X
  refine L_each [6] (by kernel_rfl) ⟨?_, trivial⟩
  simp only [nth]
  go_wp2_with (((with_reducible refine isl ?_); first | ((with_reducible apply stswx); exact rfl; exact rfl; exact rfl; (exact hs.b5); exact rfl; exact row40; exact rfl; exact rfl; exact rfl; clear hs; intro w hs)))
  (refine on_now hs ?_); clear hs; intro hs
  refine L_on [cel z5 81 [.int .i64 id2, .pointer (some ⟨b2, 0, none⟩)]] [cel z5 81 [.int .i64 id2, .pointer (some ⟨b2, 0, none⟩)]] #[true, true, true, true, true, true, true, false] (fuel := 1) hs (by kernel_rfl) (fun _ h => h) (fun _ h => h) (fun _ => by (refine sb_from ?_ hs; repeat constructor)) (fun _ => by (refine sb_from ?_ hs; repeat constructor)) ?_; clear hd hs; intro hd hs
  refine L_each [7] (by kernel_rfl) ⟨?_, trivial⟩
  simp only [nth]
  go_wp2_with (fail)
  (refine on_now hs ?_); clear hs; intro hs
  refine L_on [cel z5 81 [.int .i64 id2, .pointer (some ⟨b2, 0, none⟩)]] [cel z5 81 [.int .i64 id2, .pointer (some ⟨b2, 0, none⟩)]] #[true, true, true, true, true, true, true, true] (fuel := 0) hs (by kernel_rfl) (fun _ h => h) (fun _ h => h) (fun e => absurd e (by decide)) (fun e => absurd e (by decide)) ?_; clear hd hs; intro hd hs
  refine L_done (by kernel_rfl) ?_; clear hd
  go_wp2_with fail
  (refine ⟨rfl, _, results_ct hs.b0 rfl rfl row40, ?_⟩)
  refine ⟨_, _, rfl, ?_⟩
  have hp : ps[j]? = some ⟨id2, b2, l2⟩ := by rw [← HJ.out]; exact HX.out
  have h3 : sat W (rwP 96 b2 l2 :: lrw 96 (ps.take j) :: lrw 96 (ps.drop (j + 1)) :: cel b 76 [.int .i64 most, .int .i64 first, .slice (some ⟨g, 0, none⟩) n p, .int .i64 nx] :: own 81 2 (.slice (some ⟨g, 0, none⟩) n p) n (lvs ps).flatten :: cls (.slice ar m pr) l2 :: H) w := by refine sb_from ?_ hs; repeat constructor
  have h4 := lrw_put (l := ps) (y := ⟨id2, b2, l2⟩) (List.getElem?_eq_some_iff.1 hp).1 h3
  rw [set_same hp] at h4
  exact (HO.out.close (by refine sb_from ?_ h4; repeat constructor : sat W (cel b 76 [.int .i64 most, .int .i64 first, .slice (some ⟨g, 0, none⟩) n p, .int .i64 nx] :: own 81 2 (.slice (some ⟨g, 0, none⟩) n p) n (lvs ps).flatten :: lrw 96 ps :: cls (.slice ar m pr) l2 :: H) w)).b1
end Go.Proofs.Ytdcagaaanbgcoaa
namespace Go.Proofs.Ytdcagaaanbgcoaa
open Go.RowKit Go.Mem Go.Cells Go.Lines
variable {W w : World} {H : List HProp}
attribute [local irreducible] rowTy oneTy World.setCell World.setCells World.alloc World.drew World.drewN Calls sat cel own blk old wpQuiet wpList cmb cmb1 rwP cls rws wi wh fst_ World.rangeAt lrw lnP stP lsP dsP lvs
theorem at12_none {b most : Nat} {nx k : Int} {L : List LN} (h : 0 < nx) (hk : k < 0 ∨ (L.length : Int) ≤ k) (hs : sat W (stP b most nx L :: H) w) :
    Calls Try.prog 63 #[.pointer (some ⟨b, 0, none⟩), .int .i64 k] w fun e w' => e = .returned (.tuple #[.agg #[.int .i64 0, .slice none 0 0], .int .i64 6]) ∧ sat W (stP b most nx L :: H) w' := by
  obtain ⟨first, n, ps, a, p, HO, hn, hf, hs⟩ := st_open hs
  rw [HO.out.sz] at hk
  by_cases h1 : k < 0
  · have g1 : decide (k < 0) = true := decide_eq_true h1
    clear hk
    go_enter Try.func63, Try.ntmps63
    go_wp2_with (first | (go_at_call 42; refine (ready27 h (by (apply sk_from (hs := hs); repeat constructor))).mono ?_; clear hs; rintro e w ⟨rfl, hs⟩) | ((with_reducible refine isl ?_); first | ((with_reducible apply stswx); exact rfl; exact rfl; exact rfl; (exact hs.b1); exact rfl; exact row40; exact rfl; exact rfl; exact rfl; clear hs; intro w hs) | ((with_reducible refine wrap hs ?_); clear hs; (generalize w.heap.size = z4); intro w hs)))
    (refine ⟨rfl, _, results_ct hs.b0 rfl rfl row40, ?_⟩)
    exact ⟨rfl, HO.out.close (by refine sb_from ?_ hs; repeat constructor)⟩
  · have g1 : decide (k < 0) = false := decide_eq_false h1
    have g2 : decide ((n : Int) ≤ k) = true := decide_eq_true (by omega)
    clear hk
    go_enter Try.func63, Try.ntmps63
    go_wp2_with (first | (go_at_call 42; refine (ready27 h (by (apply sk_from (hs := hs); repeat constructor))).mono ?_; clear hs; rintro e w ⟨rfl, hs⟩) | ((with_reducible refine isl ?_); first | ((with_reducible apply stswx); exact rfl; exact rfl; exact rfl; (exact hs.b1); exact rfl; exact row40; exact rfl; exact rfl; exact rfl; clear hs; intro w hs) | ((with_reducible apply ldx); exact rfl; exact rfl; exact rfl; (exact hs.b0); exact rfl; kernel_rfl) | ((with_reducible refine wrap hs ?_); clear hs; (generalize w.heap.size = z4); intro w hs)))
    (refine ⟨rfl, _, results_ct hs.b0 rfl rfl row40, ?_⟩)
    exact ⟨rfl, HO.out.close (by refine sb_from ?_ hs; repeat constructor)⟩
/-- The newest line's place that has an id. -/
def fnd (L : List LN) (id : Int) : Int := find (fun x => decide (x.1 = id)) L
theorem fld29 (w : World) (x y : Value) : (Instr.field 81 (.agg #[x, y]) 0).run Try.prog w = .ok x w := by
  simp only [Instr.field, part, go_sem]
  simp [asAgg, go_sem]
theorem find13 {b most : Nat} {nx id : Int} {L : List LN} (hm : most ≤ 10000) (h : 0 < nx) (hs : sat W (stP b most nx L :: H) w) :
    Calls Try.prog 31 #[.pointer (some ⟨b, 0, none⟩), .int .i64 id] w fun e w' => e = .returned (.int .i64 (fnd L id)) ∧ sat W (stP b most nx L :: H) w' := by
  obtain ⟨first, n, ps, a, p, HO, hn, hf, hs⟩ := st_open hs
  have h1n : n ≤ 10000 := by omega
  have HR : Hid (find (fun x : LN => decide (x.1 = id)) L = find (fun x : LN => decide (x.1 = id)) (L.take n)) := Lib.hid (by rw [List.take_of_length_le (by rw [HO.out.sz]; exact Nat.le_refl _)])
  have hfd := fld29
  obtain ⟨F, hF⟩ : ∃ F, fnd L id = F := ⟨_, rfl⟩
  have HF := Lib.hid hF
  unfold fnd at hF
  rw [hF] at HR
  rw [HF.out]
  clear hF
  go_enter Try.func31, Try.ntmps31
  go_wp2_with ((go_at_call 15; refine (len10 h (by (apply sk_from (hs := hs); repeat constructor))).mono ?_; clear hs; rintro e w ⟨rfl, hs⟩))
  go_loopw [10] (fun i wx => ∃ i0 : Nat, i0 ≤ n ∧ i = .int .i64 (i0 : Int) ∧ Hid (F = find (fun x : LN => decide (x.1 = id)) (L.take (n - i0))) ∧ sat W (cel b 76 [.int .i64 most, .int .i64 first, .slice a n p, .int .i64 nx] :: own 81 2 (.slice a n p) n (lvs ps).flatten :: lrw 96 ps :: H) wx) (fun i _ => ((n : Int) - intOf i).toNat)
  case atStart => exact ⟨0, Nat.zero_le _, rfl, HR, by refine sb_from ?_ hs; repeat constructor⟩
  case round =>
    clear hs HR
    obtain ⟨i0, hi, rfl, HR, hs⟩ := hrel
    by_cases hin : i0 < n
    · have hin2 : (i0 : Int) < (n : Int) := by omega
      obtain ⟨g, rfl⟩ := own_ptr (by omega) hs.b1
      have hj : n - 1 - i0 < n := by omega
      obtain ⟨⟨id2, b2, l2⟩, hx1, hx2⟩ := HO.out.at hj
      have HX := Lib.hid hx1
      have e1 : (n : Int) - 1 - (i0 : Int) = ((n - 1 - i0 : Nat) : Int) := by omega
      have HT : Hid (find (fun x : LN => decide (x.1 = id)) (L.take (n - i0)) = if id2 = id then ((n - 1 - i0 : Nat) : Int) else find (fun x : LN => decide (x.1 = id)) (L.take (n - (i0 + 1)))) := Lib.hid (by
        rw [show n - i0 = (n - 1 - i0) + 1 from by omega, find_take_succ _ _ _ _ hx2, show n - (i0 + 1) = n - 1 - i0 from by omega]
        simp)
      clear hx1 hx2
      by_cases hq : id2 = id
      · subst hq
        go_wp2_with ((go_at_call 59; refine (get33 HX.out hj hf h1n (by (apply sk_from (hs := hs); repeat constructor))).mono ?_; clear hs; rintro e w ⟨rfl, hs⟩))
        go_ret
        refine ⟨?_, HO.out.close (by refine sb_from ?_ hs; repeat constructor)⟩
        rw [HR.out, HT.out, if_pos trivial]; rfl
      · go_wp2_with ((go_at_call 59; refine (get33 HX.out hj hf h1n (by (apply sk_from (hs := hs); repeat constructor))).mono ?_; clear hs; rintro e w ⟨rfl, hs⟩))
        go_roundw
        case rel => exact ⟨i0 + 1, by omega, by go_num, Lib.hid (by rw [HR.out, HT.out, if_neg hq]), by refine sb_from ?_ hs; repeat constructor⟩
        case measure => simp [intOf]; omega
    · have hge : ¬ (i0 : Int) < (n : Int) := by omega
      have HE : Hid (F = -1) := Lib.hid (by rw [HR.out, show n - i0 = 0 from by omega]; rfl)
      clear hin
      go_wp2_with (fail)
      go_ret
      exact ⟨by rw [HE.out]; rfl, HO.out.close hs⟩
theorem push9 {b b2 most m : Nat} {nx id : Int} {L : List LN} {l : List C} (hl : l.length = m) (h0 : 0 < m) (h5 : m ≤ 512) (ok : Ok l) (hid : 1 ≤ id ∧ id < nx) (hm : most ≤ 10000) (hs : sat W (stP b most nx L :: rwP 96 b2 l :: H) w) :
    Calls Try.prog 64 #[.pointer (some ⟨b, 0, none⟩), .agg #[.int .i64 id, .pointer (some ⟨b2, 0, none⟩)]] w fun e w' => e = .returned (.int .i64 0) ∧ sat W (stP b most nx (push most L (id, l)) :: rwP 96 b2 l :: H) w' := by
  obtain ⟨first, n, ps, a, p, HO, hn, hf, hs⟩ := st_open hs
  have h : 0 < nx := by omega
  have H4 := Lib.hid ok.m4
  have HLL := Lib.hid hl
  have g0 : ¬ (m : Int) = 0 := by omega
  have g0' : ((m : Int) == 0) = false := beq_eq_false_iff_ne.2 g0
  have g1 : decide (id < 1) = false := decide_eq_false (by omega)
  have g2 : decide (nx ≤ id) = false := decide_eq_false (by omega)
  clear ok hl hid
  go_enter Try.func64, Try.ntmps64
  go_upto_region 3 with (first | (go_at_call 42; refine (ready27 h (by (apply sk_from (hs := hs); repeat constructor))).mono ?_; clear hs; rintro e w ⟨rfl, hs⟩) | ((with_reducible refine isl ?_); first | ((with_reducible refine wrap hs ?_); clear hs; (generalize w.heap.size = z4); intro w hs)))
  refine region_mix [([0, 1], [2])] [3, 4, 5, 6, 7, 8, 9, 10, 11, 12, 13, 14, 15, 16, 17, 18] hs (fun _ h => by (show sat W [cel b 76 [.int .i64 most, .int .i64 first, .slice a n p, .int .i64 nx], cel z4 81 [.int .i64 id, .pointer (some ⟨b2, 0, none⟩)]] _; refine sb_from ?_ h; repeat constructor)) (by kernel_rfl) (by kernel_rfl) (fun _ _ _ _ _ h => h) ?_
  simp only [segs, nths, nth, List.append_nil, List.nil_append, List.cons_append, List.map_cons, List.map_nil]
  refine seg_reads (fun _ h => by (show sat W [cel b 76 [.int .i64 most, .int .i64 first, .slice a n p, .int .i64 nx], cel z4 81 [.int .i64 id, .pointer (some ⟨b2, 0, none⟩)]] _; refine sb_from ?_ h; repeat constructor)) ?_; intro X f hne hf hcl; (try simp only [Act.put, List.setIfInBounds_toArray, List.set_cons_succ, List.set_cons_zero]); (repeat ((first | ((with_reducible apply ldqx); exact rfl; exact rfl; exact rfl; (exact fun x => (hf x).b1); exact rfl; kernel_rfl) | go_big_quiet_step (fail)); (try simp only [Act.put, List.setIfInBounds_toArray, List.set_cons_succ, List.set_cons_zero]))); refine wpQuiet_nil ?_; clear hcl hf hne hs f X; intro w hs
  go_wp2_with ((go_at_call 30; refine (len27 HLL.out h0 (by (apply sk_from (hs := hs); repeat constructor))).mono ?_; clear hs; rintro e w ⟨rfl, hs⟩))
  (refine seg_on hs (fun _ h => h) ?_ ?_)
  · exact fun _ h => by (show sat W [cel b 76 [.int .i64 most, .int .i64 first, .slice a n p, .int .i64 nx], cel z4 81 [.int .i64 id, .pointer (some ⟨b2, 0, none⟩)]] _; refine sb_from ?_ h; repeat constructor)
  clear hs; intro hs
  refine seg_last (fun _ h => by (show sat W [cel b 76 [.int .i64 most, .int .i64 first, .slice a n p, .int .i64 nx], cel z4 81 [.int .i64 id, .pointer (some ⟨b2, 0, none⟩)]] _; refine sb_from ?_ h; repeat constructor)) ?_; intro X f hne hf hcl; (try simp only [Act.put, List.setIfInBounds_toArray, List.set_cons_succ, List.set_cons_zero]); (repeat ((first | ((with_reducible apply ldqx); exact rfl; exact rfl; exact rfl; (first | exact fun x => (hf x).b0 | exact fun x => (hf x).b1); exact rfl; kernel_rfl) | go_big_quiet_step (fail)); (try simp only [Act.put, List.setIfInBounds_toArray, List.set_cons_succ, List.set_cons_zero]))); refine wpQuiet_nil ?_; clear hcl hf hne hs f X; intro w hs
  go_upto_region 5 with fail
  have hs1 : sat W (stP b most nx L :: cel z4 81 [.int .i64 id, .pointer (some ⟨b2, 0, none⟩)] :: rwP 96 b2 l :: H) w := HO.out.close (by refine sb_from ?_ hs; repeat constructor)
  clear hs
  have hs := hs1
  clear hs1
  refine region_mix [([0, 1, 2, 3, 4, 5, 6], [7]), ([8], [9])] [] hs (fun _ h => by (show sat W [cel z4 81 [.int .i64 id, .pointer (some ⟨b2, 0, none⟩)]] _; refine sb_from ?_ h; repeat constructor)) (by kernel_rfl) (by kernel_rfl) (fun _ _ _ _ _ h => h) ?_
  simp only [segs, nths, nth, List.append_nil, List.nil_append, List.cons_append, List.map_cons, List.map_nil]
  refine seg_reads (fun _ h => by (show sat W [cel z4 81 [.int .i64 id, .pointer (some ⟨b2, 0, none⟩)]] _; refine sb_from ?_ h; repeat constructor)) ?_; intro X f hne hf hcl; (try simp only [Act.put, List.setIfInBounds_toArray, List.set_cons_succ, List.set_cons_zero]); (repeat ((first | ((with_reducible apply ldqx); exact rfl; exact rfl; exact rfl; (exact fun x => (hf x).b0); exact rfl; kernel_rfl) | go_big_quiet_step (fail)); (try simp only [Act.put, List.setIfInBounds_toArray, List.set_cons_succ, List.set_cons_zero]))); refine wpQuiet_nil ?_; clear hcl hf hne hs f X; intro w hs
  go_wp2_with ((go_at_call 81; refine (copy20 HLL.out h0 (by omega) H4.out (by (apply sk_from (hs := hs); repeat constructor))).mono ?_; clear hs; rintro e w ⟨b3, rfl, hs⟩))
  (refine seg_on hs (fun _ h => h) ?_ ?_)
  · exact fun _ h => by (show sat W [cel z4 81 [.int .i64 id, .pointer (some ⟨b2, 0, none⟩)]] _; refine sb_from ?_ h; repeat constructor)
  clear hs; intro hs
  refine seg_reads (fun _ h => by (show sat W [cel z4 81 [.int .i64 id, .pointer (some ⟨b2, 0, none⟩)]] _; refine sb_from ?_ h; repeat constructor)) ?_; intro X f hne hf hcl; (try simp only [Act.put, List.setIfInBounds_toArray, List.set_cons_succ, List.set_cons_zero]); (repeat ((go_big_quiet_step (fail)); (try simp only [Act.put, List.setIfInBounds_toArray, List.set_cons_succ, List.set_cons_zero]))); refine wpQuiet_nil ?_; clear hcl hf hne hs f X; intro w hs
  go_wp2_with ((go_at_call 80; refine (add31 hm (by (apply sk_from (hs := hs); repeat constructor))).mono ?_; clear hs; rintro e w ⟨rfl, hs⟩))
  (refine seg_on hs (fun _ h => h) ?_ ?_)
  · exact fun _ h => by (show sat W [cel z4 81 [.int .i64 id, .pointer (some ⟨b2, 0, none⟩)]] _; refine sb_from ?_ h; repeat constructor)
  clear hs; intro hs
  refine seg_last (fun _ h => by (show sat W [cel z4 81 [.int .i64 id, .pointer (some ⟨b2, 0, none⟩)]] _; refine sb_from ?_ h; repeat constructor)) ?_; intro X f hne hf hcl; (try simp only [Act.put, List.setIfInBounds_toArray, List.set_cons_succ, List.set_cons_zero]); (repeat ((fail); (try simp only [Act.put, List.setIfInBounds_toArray, List.set_cons_succ, List.set_cons_zero]))); refine wpQuiet_nil ?_; clear hcl hf hne hs f X; intro w hs
  go_wp2_with fail
  go_ret
  exact ⟨rfl, by refine sb_from ?_ hs; repeat constructor⟩
theorem fresh8 {b most n : Nat} {nx : Int} {L : List LN} {a : At} (h0 : 1 ≤ n) (h5 : n ≤ 512) (h : 0 < nx) (hb : nx ≤ 1000000) (hs : sat W (stP b most nx L :: H) w) :
    Calls Try.prog 65 #[.pointer (some ⟨b, 0, none⟩), .int .i64 (n : Int), aV a] w fun e w' => ∃ b2, e = .returned (.tuple #[.agg #[.int .i64 nx, .pointer (some ⟨b2, 0, none⟩)], .int .i64 0]) ∧ sat W (rwP 96 b2 (eraseG (List.replicate n (bC At.z)) 0 n a) :: stP b most (nx + 1) L :: H) w' := by
  obtain ⟨first, n2, ps, a2, p, HO, hn, hf, hs⟩ := st_open hs
  have HR : Hid ((List.replicate n (bC At.z)).length = n) := Lib.hid (List.length_replicate ..)
  obtain ⟨fg, bg, fl⟩ := a
  go_enter Try.func65, Try.ntmps65
  go_wp2_with (first | (go_at_call 42; refine (ready27 h (by (apply sk_from (hs := hs); repeat constructor))).mono ?_; clear hs; rintro e w ⟨rfl, hs⟩) | (go_at_call 82; refine (new7 h0 h5 (by (apply sk_from (hs := hs); repeat constructor))).mono ?_; clear hs; rintro e w ⟨b2, rfl, hs⟩) | (go_at_call 83; refine (erase21 (at_ := ⟨fg, bg, fl⟩) HR.out (by omega) (by omega) (by (apply sk_from (hs := hs); repeat constructor))).mono ?_; clear hs; rintro e w ⟨rfl, hs⟩) | ((with_reducible refine isl ?_); first | ((with_reducible apply stswx); exact rfl; exact rfl; exact rfl; (exact hs.b2); exact rfl; exact row29; exact rfl; exact rfl; exact rfl; clear hs; intro w hs) | ((with_reducible apply ldsx 3); exact rfl; exact rfl; exact rfl; (first | exact hs.b0 | exact hs.b1 | exact hs.b3); exact row33; exact rfl; exact rfl) | ((with_reducible apply ldx); exact rfl; exact rfl; exact rfl; (first | exact hs.b0 | exact hs.b1); exact rfl; kernel_rfl) | ((with_reducible apply stx); exact rfl; exact rfl; exact rfl; (exact hs.b1); exact rfl; exact rfl; exact rfl; kernel_rfl; exact rfl; clear hs; intro w hs) | ((with_reducible refine wrap hs ?_); clear hs; (first | (have _t := z4; clear _t; generalize w.heap.size = z5) | generalize w.heap.size = z4); intro w hs)))
  (refine ⟨rfl, _, results_ct hs.b0 rfl rfl row29, ?_⟩)
  refine ⟨b2, rfl, ?_⟩
  have h3 := HO.out.close (nx := nx + 1) (by refine sb_from ?_ hs; repeat constructor : sat W (cel b 76 [.int .i64 most, .int .i64 first, .slice a2 n2 p, .int .i64 (nx + 1)] :: own 81 2 (.slice a2 n2 p) n2 (lvs ps).flatten :: lrw 96 ps :: rwP 96 b2 (eraseG (List.replicate n (bC At.z)) 0 n ⟨fg, bg, fl⟩) :: H) w)
  exact h3.b1
end Go.Proofs.Ytdcagaaanbgcoaa
namespace Go.Proofs.Ytdcagaaanbgcoaa
open Go.RowKit Go.Mem Go.Cells Go.Lines
variable {W w : World} {H : List HProp}
theorem push_take {α : Type} {most i : Nat} {L : List α} {x : α} (hx : L[i]? = some x) (hm : L.length ≤ most) : push most (L.take i) x = L.take (i + 1) := by
  have hi := (List.getElem?_eq_some_iff.1 hx).1
  unfold push
  rw [if_neg (by rw [List.length_append, List.length_take]; simp; omega), List.take_add_one, hx]
  rfl
attribute [local irreducible] rowTy oneTy World.setCell World.setCells World.alloc World.drew World.drewN Calls sat cel own blk old wpQuiet wpList cmb cmb1 rwP cls rws wi wh fst_ World.rangeAt lrw lnP stP lsP dsP lvs
theorem ds_mk {b most : Nat} {nx : Int} (hs : sat W (cel b 88 [.int .i64 nx, .int .i64 most, .slice none 0 0] :: H) w) : sat W (dsP b nx most [] :: H) w := by
  have e : (lvs []).flatten = [] := by unfold lvs; rfl
  have h1 := (lrw_nil (R := 100) (hs.own_nil 93 2)).b1.own_slP
  exact ds_close (n := 0) (ps := []) rfl rfl (by rw [e]; refine sb_from ?_ h1; repeat constructor)
theorem rnew18 {most : Nat} (hs : sat W H w) : Calls Try.prog 27 #[.int .i64 (most : Int)] w fun e w' => ∃ b, e = .returned (.pointer (some ⟨b, 0, none⟩)) ∧ sat W (dsP b 1 most [] :: H) w' := by
  go_enter Try.func27, Try.ntmps27
  go_wp2_with (fail)
  go_ret
  exact ⟨_, rfl, ds_mk hs.made⟩
end Go.Proofs.Ytdcagaaanbgcoaa
