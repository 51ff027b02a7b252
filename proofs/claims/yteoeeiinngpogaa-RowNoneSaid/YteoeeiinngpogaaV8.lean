/- Law 6: Insert, Delete. -/
import Derived.Test.YteoeeiinngpogaaV7
namespace Go.Proofs.Yteoeeiinngpogaa
open Go.RowKit Go.Mem Go.Cells
variable {W w : World} {H : List HProp}
def insG (l : List C) (k m : Int) (a : At) : List C :=
  let c0 := (min (max k 0) (l.length : Int)).toNat
  let m0 := (min (max m 0) ((l.length : Int) - (c0 : Int))).toNat
  if m0 = 0 then l
  else
    let l1 := partC l c0
    md 0 (l1.take c0 ++ List.replicate m0 (bC (grC a)) ++ (l1.drop c0).take (l.length - (c0 + m0)))
def delG (l : List C) (k m : Int) (a : At) : List C :=
  let c0 := (min (max k 0) (l.length : Int)).toNat
  let m0 := (min (max m 0) ((l.length : Int) - (c0 : Int))).toNat
  if m0 = 0 then l
  else
    let l2 := partC (partC l c0) ((c0 : Int) + (m0 : Int))
    l2.take c0 ++ l2.drop (c0 + m0) ++ List.replicate m0 (bC (grC a))
/-- A row of which so many cells from a place on are blank. -/
structure IQ (B : PC) (ps : List PC) (c m q i : Nat) (qs : List PC) : Prop where
  len : qs.length = c + m + q
  pre : qs.take c = ps.take c
  mid : (qs.drop c).take i = List.replicate i B
  suf : qs.drop (c + m) = (ps.drop c).take q
theorem IQ.start {B : PC} {ps : List PC} {c m q : Nat} (h : ps.length = c + m + q) : IQ B ps c m q 0 (ps.take (c + m) ++ (ps.drop c).take q) := by
  have e1 : (ps.take (c + m)).length = c + m := by rw [List.length_take]; omega
  have e2 : ((ps.drop c).take q).length = q := by rw [List.length_take, List.length_drop]; omega
  refine ⟨by rw [List.length_append, e1, e2], ?_, rfl, ?_⟩
  · rw [List.take_append_of_le_length (by omega), List.take_take, Nat.min_eq_left (by omega)]
  · rw [List.drop_append_of_le_length (by omega), List.drop_eq_nil_of_le (by omega), List.nil_append]
theorem IQ.next {B : PC} {ps : List PC} {c m q i : Nat} {qs : List PC} (h : IQ B ps c m q i qs) (hi : i < m) : IQ B ps c m q (i + 1) (qs.set (c + i) B) := by
  obtain ⟨h1, h2, h3, h4⟩ := h
  refine ⟨by rw [List.length_set, h1], ?_, ?_, ?_⟩
  · rw [List.take_set, List.set_eq_of_length_le (by rw [List.length_take]; omega), h2]
  · rw [List.drop_set, if_neg (by omega), show c + i - c = i from by omega, List.take_set, List.take_add_one, List.replicate_succ', ← h3]
    have hlt : i < (qs.drop c).length := by rw [List.length_drop]; omega
    rw [List.getElem?_eq_getElem hlt]
    simp only [Option.toList]
    have e : ((qs.drop c).take i).length = i := by rw [List.length_take]; omega
    have := set_app_cons2 ((qs.drop c).take i) (qs.drop c)[i] B []
    rw [e] at this
    exact this
  · rw [List.drop_set, if_pos (by omega), h4]
/-- A row of which so many cells at its end are blank. -/
structure JQ (B : PC) (ps : List PC) (c m q i : Nat) (qs : List PC) : Prop where
  len : qs.length = c + q + m
  pre : qs.take (c + q) = ps.take c ++ ps.drop (c + m)
  mid : (qs.drop (c + q)).take i = List.replicate i B
theorem JQ.start {B : PC} {ps : List PC} {c m q : Nat} (h : ps.length = c + m + q) : JQ B ps c m q 0 (ps.take c ++ ps.drop (c + m) ++ ps.drop (c + q)) := by
  have e1 : (ps.take c ++ ps.drop (c + m)).length = c + q := by rw [List.length_append, List.length_take, List.length_drop]; omega
  refine ⟨by rw [List.length_append, e1, List.length_drop]; omega, ?_, rfl⟩
  rw [List.take_append_of_le_length (by omega), List.take_of_length_le (by omega)]
theorem JQ.next {B : PC} {ps : List PC} {c m q i : Nat} {qs : List PC} (h : JQ B ps c m q i qs) (hi : i < m) : JQ B ps c m q (i + 1) (qs.set (c + q + i) B) := by
  obtain ⟨h1, h2, h3⟩ := h
  refine ⟨by rw [List.length_set, h1], ?_, ?_⟩
  · rw [List.take_set, List.set_eq_of_length_le (by rw [List.length_take]; omega), h2]
  · rw [List.drop_set, if_neg (by omega), show c + q + i - (c + q) = i from by omega, List.take_set, List.take_add_one, List.replicate_succ', ← h3]
    have hlt : i < (qs.drop (c + q)).length := by rw [List.length_drop]; omega
    rw [List.getElem?_eq_getElem hlt]
    simp only [Option.toList]
    have e : ((qs.drop (c + q)).take i).length = i := by rw [List.length_take]; omega
    have := set_app_cons2 ((qs.drop (c + q)).take i) (qs.drop (c + q))[i] B []
    rw [e] at this
    exact this
theorem JQ.fin {B : PC} {ps : List PC} {c m q : Nat} {qs : List PC} (h : JQ B ps c m q m qs) : qs = ps.take c ++ ps.drop (c + m) ++ List.replicate m B := by
  obtain ⟨h1, h2, h3⟩ := h
  have e : qs = qs.take (c + q) ++ qs.drop (c + q) := (List.take_append_drop _ _).symm
  rw [e, h2, ← h3, List.take_of_length_le (l := qs.drop (c + q)) (by rw [List.length_drop]; omega)]
theorem IQ.fin {B : PC} {ps : List PC} {c m q : Nat} {qs : List PC} (h : IQ B ps c m q m qs) : qs = ps.take c ++ List.replicate m B ++ (ps.drop c).take q := by
  obtain ⟨h1, h2, h3, h4⟩ := h
  have e : qs = qs.take c ++ ((qs.drop c).take m ++ qs.drop (c + m)) := by
    rw [← List.drop_drop, List.take_append_drop, List.take_append_drop]
  rw [e, h2, h3, h4, List.append_assoc]
attribute [local irreducible] World.setCell World.setCells World.alloc World.drew World.drewN Calls sat cel own blk old wpQuiet wpList cmb cmb1 rwP cls rws partC md
theorem insert13 {b n : Nat} {l : List C} {k m : Int} {at_ : At} (hn : l.length = n) (h0 : 0 < n) (h512 : n ≤ 1000) (hs : sat W (rwP 55 b l :: H) w) :
    Calls Try.prog 13 #[.pointer (some ⟨b, 0, none⟩), .int .i64 k, .int .i64 m, aV at_] w fun e w' => e = .returned (.int .i64 0) ∧ sat W (rwP 55 b (insG l k m at_) :: H) w' := by
  obtain ⟨c0, hc0⟩ : ∃ c0 : Nat, (c0 : Int) = min (max k 0) (n : Int) := ⟨(min (max k 0) (n : Int)).toNat, by omega⟩
  have hc1 : c0 ≤ n := by omega
  obtain ⟨m0, hm0⟩ : ∃ m0 : Nat, (m0 : Int) = min (max m 0) ((n : Int) - c0) := ⟨(min (max m 0) ((n : Int) - c0)).toNat, by omega⟩
  have hm1 : c0 + m0 ≤ n := by omega
  have HF1 := Lib.hid hc0.symm
  have HM0 := Lib.hid hm0
  have HN0 := Lib.hid hn
  obtain ⟨l1, hl1⟩ : ∃ l1, partC l (c0 : Int) = l1 := ⟨_, rfl⟩
  skip
  have HN1 : Hid (l1.length = n) := Lib.hid (by rw [← hl1, partC_length, hn])
  have HL1 := Lib.hid hl1
  skip
  skip
  have HG : Hid (insG l k m at_ = if m0 = 0 then l else md 0 (l1.take c0 ++ List.replicate m0 (bC (grC at_)) ++ (l1.drop c0).take (n - (c0 + m0)))) := Lib.hid (by
    have ef : (min (max k 0) (l.length : Int)).toNat = c0 := by rw [hn]; omega
    have et : (min (max m 0) ((l.length : Int) - (c0 : Int))).toNat = m0 := by rw [hn]; omega
    unfold insG
    rw [ef]
    simp only
    rw [et, hl1, hn])
  have hb1 : (0 : Int) ≤ (c0 : Int) + (m0 : Int) := by omega
  have hb2 : (c0 : Int) + (m0 : Int) ≤ (n : Int) := by omega
  have hb3 : (c0 : Int) ≤ (n : Int) := by omega
  clear hc0 hm0 hn hl1 
  go_enter Try.func13, Try.ntmps13
  go_upto_region 4 with (first | (go_at_call 40; refine (ready40 HN0.out h0 (by apply sk_from (hs := hs); repeat constructor)).mono ?_; clear hs; rintro e w ⟨rfl, hs⟩) | (go_at_call 41; refine (held41 HN0.out (by apply sk_from (hs := hs); repeat constructor)).mono ?_; clear hs; rintro e w ⟨rfl, hs⟩; rw [HF1.out]) | ((with_reducible refine isl ?_); first | ((with_reducible apply ld hs.b0); exact rfl; exact rfl; exact rfl; exact rfl; kernel_rfl) | ((with_reducible apply ld hs.b1); exact rfl; exact rfl; exact rfl; exact rfl; kernel_rfl) | ((with_reducible apply st hs.b0); exact rfl; exact rfl; exact rfl; exact rfl; exact rfl; exact rfl; kernel_rfl; exact rfl; clear hs; intro w hs) | ((with_reducible apply st hs.b1); exact rfl; exact rfl; exact rfl; exact rfl; exact rfl; exact rfl; kernel_rfl; exact rfl; clear hs; intro w hs) | ((with_reducible apply stc hs.b0); exact rfl; exact rfl; exact rfl; exact rfl; exact rfl; kernel_rfl; exact rfl; clear hs; intro w hs) | ((with_reducible apply stc hs.b1); exact rfl; exact rfl; exact rfl; exact rfl; exact rfl; kernel_rfl; exact rfl; clear hs; intro w hs) | ((with_reducible refine wrap hs ?_); clear hs; (first | generalize w.heap.size = z4); intro w hs) | ((with_reducible refine wrap hs ?_); clear hs; intro w hs) | ((with_reducible refine wrapn hs ?_); clear hs; intro w hs) | ((with_reducible refine wrapd hs ?_); clear hs; intro w hs)))
  go_cut [2] (fun v wx => v = .int .i64 (m0 : Int) ∧ sat W (rwP 55 b l :: cel z4 33 (aC at_) :: H) wx)
  case first =>
    obtain ⟨ps, a9, p9, hps, hs⟩ := rw_open HN0.out hs; have HP : Hid (ps.length = n ∧ ps.map (·.c) = l) := Lib.hid ⟨by rw [← HN0.out, ← hps, List.length_map], hps⟩; clear hps
    go_wp2_with (first | ((with_reducible refine isl ?_); first | ((with_reducible apply ld hs.b0); exact rfl; exact rfl; exact rfl; exact rfl; kernel_rfl) | ((with_reducible apply ld hs.b1); exact rfl; exact rfl; exact rfl; exact rfl; kernel_rfl) | ((with_reducible apply st hs.b0); exact rfl; exact rfl; exact rfl; exact rfl; exact rfl; exact rfl; kernel_rfl; exact rfl; clear hs; intro w hs) | ((with_reducible apply st hs.b1); exact rfl; exact rfl; exact rfl; exact rfl; exact rfl; exact rfl; kernel_rfl; exact rfl; clear hs; intro w hs) | ((with_reducible apply stc hs.b0); exact rfl; exact rfl; exact rfl; exact rfl; exact rfl; kernel_rfl; exact rfl; clear hs; intro w hs) | ((with_reducible apply stc hs.b1); exact rfl; exact rfl; exact rfl; exact rfl; exact rfl; kernel_rfl; exact rfl; clear hs; intro w hs) | ((with_reducible refine wrap hs ?_); clear hs; intro w hs) | ((with_reducible refine wrapn hs ?_); clear hs; intro w hs) | ((with_reducible refine wrapd hs ?_); clear hs; intro w hs)))
    all_goals
      go_meet
      refine ⟨by have := HM0.out; congr 1; omega, ?_⟩
      have hs := (show sat W (rwP 55 b l :: cel z4 33 (aC at_) :: H) w from by have h6 := rw_close HP.out.1 (by refine sb_from ?_ hs; repeat constructor : sat W (cel b 55 [.slice a9 n p9] :: own 41 6 (.slice a9 n p9) n (rws ps).flatten :: cmb ps :: cel z4 33 (aC at_) :: H) w); rw [HP.out.2] at h6; exact h6)
      exact hs
  case rest =>
    clear hs
    obtain ⟨rfl, hs⟩ := hcut
    by_cases hz : m0 = 0
    · have HZ : Hid (insG l k m at_ = l) := Lib.hid (by rw [HG.out, if_pos hz])
      go_wp2_with (first | ((with_reducible refine isl ?_); first | ((with_reducible apply ld hs.b0); exact rfl; exact rfl; exact rfl; exact rfl; kernel_rfl) | ((with_reducible apply st hs.b0); exact rfl; exact rfl; exact rfl; exact rfl; exact rfl; exact rfl; kernel_rfl; exact rfl; clear hs; intro w hs) | ((with_reducible apply stc hs.b0); exact rfl; exact rfl; exact rfl; exact rfl; exact rfl; kernel_rfl; exact rfl; clear hs; intro w hs) | ((with_reducible refine wrap hs ?_); clear hs; intro w hs) | ((with_reducible refine wrapn hs ?_); clear hs; intro w hs) | ((with_reducible refine wrapd hs ?_); clear hs; intro w hs)))
      go_ret
      exact ⟨rfl, by rw [HZ.out]; refine sb_from ?_ hs; repeat constructor⟩
    · have HZ : Hid (insG l k m at_ = md 0 (l1.take c0 ++ List.replicate m0 (bC (grC at_)) ++ (l1.drop c0).take (n - (c0 + m0)))) := Lib.hid (by rw [HG.out, if_neg hz])
      go_upto_region 8 with (first | (go_at_call 42; refine (part42 HN0.out h512 (by apply sk_from (hs := hs); repeat constructor)).mono ?_; clear hs; rintro e w ⟨rfl, hs⟩; rw [HL1.out] at hs) | ((with_reducible refine isl ?_); first | ((with_reducible apply ld hs.b0); exact rfl; exact rfl; exact rfl; exact rfl; kernel_rfl) | ((with_reducible apply ld hs.b1); exact rfl; exact rfl; exact rfl; exact rfl; kernel_rfl) | ((with_reducible apply st hs.b0); exact rfl; exact rfl; exact rfl; exact rfl; exact rfl; exact rfl; kernel_rfl; exact rfl; clear hs; intro w hs) | ((with_reducible apply st hs.b1); exact rfl; exact rfl; exact rfl; exact rfl; exact rfl; exact rfl; kernel_rfl; exact rfl; clear hs; intro w hs) | ((with_reducible apply stc hs.b0); exact rfl; exact rfl; exact rfl; exact rfl; exact rfl; kernel_rfl; exact rfl; clear hs; intro w hs) | ((with_reducible apply stc hs.b1); exact rfl; exact rfl; exact rfl; exact rfl; exact rfl; kernel_rfl; exact rfl; clear hs; intro w hs) | ((with_reducible refine wrap hs ?_); clear hs; intro w hs) | ((with_reducible refine wrapn hs ?_); clear hs; intro w hs) | ((with_reducible refine wrapd hs ?_); clear hs; intro w hs)))
      obtain ⟨ps, a9, p9, hps, hs⟩ := rw_open HN1.out hs
      have hpn : ps.length = n := by rw [← HN1.out, ← hps, List.length_map]
      obtain ⟨g, rfl⟩ := own_ptr h0 hs.b1
      have HP := Lib.hid (And.intro hpn hps)
      have HLL : Hid ((rws ps).length = n) := Lib.hid (by rw [rws_len, hpn])
      obtain ⟨q, hq⟩ : ∃ q, n - (c0 + m0) = q := ⟨_, rfl⟩
      have HQ : Hid (Nat.min (n - c0) (n - (c0 + m0)) = q) := Lib.hid (by rw [← hq]; exact Nat.min_eq_right (by omega))
      have hq2 : c0 + m0 + q = n := by omega
      have hdq : ps.drop (c0 + m0 + q) = [] := List.drop_eq_nil_of_le (by omega)
      have HCP : Hid ((rws ps).take (c0 + m0) ++ ((rws ps).drop c0).take q ++ (rws ps).drop (c0 + m0 + q) = rws (ps.take (c0 + m0) ++ (ps.drop c0).take q)) := Lib.hid (by
        rw [rws_take, rws_drop, rws_take, rws_drop, ← rws_app, ← rws_app, hdq, List.append_nil])
      have HCP0 : Hid (q = 0 → (rws ps).take 0 ++ ((rws ps).drop c0).take q ++ (rws ps).drop (0 + q) = rws (ps.take (c0 + m0) ++ (ps.drop c0).take q)) := Lib.hid (by
        intro h
        subst h
        rw [List.take_of_length_le (show ps.length ≤ c0 + m0 by omega)]
        simp)
      have HQ2 := Lib.hid hq2
      have hcap := hs.b1.own_len.1
      clear hpn hps hq hq2 hdq
      go_cut [] (fun wx => sat W (cel b 55 [.slice (some ⟨g, 0, none⟩) n p9] :: own 41 6 (.slice (some ⟨g, 0, none⟩) n p9) n (rws (ps.take (c0 + m0) ++ (ps.drop c0).take q)).flatten :: cmb ps :: cel z4 33 (aC at_) :: H) wx)
      case first =>
        by_cases hp : p9 = c0 + m0
        · have hq0 : q = 0 := by have := HQ2.out; omega
          have HQ0 := Lib.hid hq0
          have hp1 : ¬ p9 = c0 := by omega
          clear hq0
          refine region_mix [([0, 1, 2, 3, 4, 5, 6, 7, 8, 9, 10, 11, 12, 13], [14])] [] hs (fun _ h => by (show sat W [cel b 55 [.slice (some ⟨g, 0, none⟩) n p9]] _; refine sb_from ?_ h; repeat constructor)) (by kernel_rfl) (by kernel_rfl) (fun _ _ _ _ _ h => h) ?_
          simp only [segs, nths, nth, List.append_nil, List.nil_append, List.cons_append, List.map_cons, List.map_nil]
          refine seg_reads (fun _ h => by (show sat W [cel b 55 [.slice (some ⟨g, 0, none⟩) n p9]] _; refine sb_from ?_ h; repeat constructor)) ?_; intro X f hne hf hcl; (try simp only [Act.put, List.setIfInBounds_toArray, List.set_cons_succ, List.set_cons_zero]); (repeat ((first | ((with_reducible apply ldq (fun x => (hf x).b0)); exact rfl; exact rfl; exact rfl; exact rfl; kernel_rfl) | go_big_quiet_step (fail)); (try simp only [Act.put, List.setIfInBounds_toArray, List.set_cons_succ, List.set_cons_zero]))); refine wpQuiet_nil ?_; clear hcl hf hne hs f X; intro w hs
          go_wp2_with (first | ((with_reducible refine isl ?_); first | ((with_reducible apply cpyr (i := 0) (j := c0) (q := q) hs.b1); exact rfl; exact rfl; exact rfl; exact rfl; exact Try.underlying37; exact size41; exact rws6 _; exact HLL.out; exact rws_row1; exact HQ.out; (have := HQ2.out; omega); (have := HQ2.out; omega); clear hs; intro w hs; rw [HCP0.out HQ0.out] at hs) | ((with_reducible apply cpyr (i := 0) (j := c0) (q := q) hs); exact rfl; exact rfl; exact rfl; exact rfl; exact Try.underlying37; exact size41; exact rws6 _; exact HLL.out; exact rws_row1; exact HQ.out; (have := HQ2.out; omega); (have := HQ2.out; omega); clear hs; intro w hs; rw [HCP0.out HQ0.out] at hs) | ((with_reducible refine wrap hs ?_); clear hs; intro w hs) | ((with_reducible refine wrapn hs ?_); clear hs; intro w hs) | ((with_reducible refine wrapd hs ?_); clear hs; intro w hs)))
          (first | refine seg_on hs (fun _ h => h) ?_ ?_ | refine seg_on hs.made (fun _ h => h) ?_ ?_ | refine seg_on hs.drew (fun _ h => h) ?_ ?_ | refine seg_on hs.drew.made (fun _ h => h) ?_ ?_ | refine seg_on (hs.drewN _) (fun _ h => h) ?_ ?_)
          · exact fun _ h => by (show sat W [cel b 55 [.slice (some ⟨g, 0, none⟩) n p9]] _; refine sb_from ?_ h; repeat constructor)
          clear hs; intro hs
          refine seg_last (fun _ h => by (show sat W [cel b 55 [.slice (some ⟨g, 0, none⟩) n p9]] _; refine sb_from ?_ h; repeat constructor)) ?_; intro X f hne hf hcl; (try simp only [Act.put, List.setIfInBounds_toArray, List.set_cons_succ, List.set_cons_zero]); (repeat ((first | ((with_reducible apply ldq (fun x => (hf x).b0)); exact rfl; exact rfl; exact rfl; exact rfl; kernel_rfl) | go_big_quiet_step (fail)); (try simp only [Act.put, List.setIfInBounds_toArray, List.set_cons_succ, List.set_cons_zero]))); refine wpQuiet_nil ?_; clear hcl hf hne hs f X; intro w hs
          go_wp2_with fail
          go_meet
          case rel => refine sb_from ?_ hs; repeat constructor
        · have hp1 : ¬ p9 = c0 := by omega
          have hp2 : ¬ c0 + m0 = p9 := by omega
          have hp3 : ¬ p9 - (c0 + m0) = 0 := by omega
          have hp4 : ¬ p9 ≤ c0 + m0 := by omega
          refine region_mix [([0, 1, 2, 3, 4, 5, 6, 7, 8, 9, 10, 11, 12, 13], [14])] [] hs (fun _ h => by (show sat W [cel b 55 [.slice (some ⟨g, 0, none⟩) n p9]] _; refine sb_from ?_ h; repeat constructor)) (by kernel_rfl) (by kernel_rfl) (fun _ _ _ _ _ h => h) ?_
          simp only [segs, nths, nth, List.append_nil, List.nil_append, List.cons_append, List.map_cons, List.map_nil]
          refine seg_reads (fun _ h => by (show sat W [cel b 55 [.slice (some ⟨g, 0, none⟩) n p9]] _; refine sb_from ?_ h; repeat constructor)) ?_; intro X f hne hf hcl; (try simp only [Act.put, List.setIfInBounds_toArray, List.set_cons_succ, List.set_cons_zero]); (repeat ((first | ((with_reducible apply ldq (fun x => (hf x).b0)); exact rfl; exact rfl; exact rfl; exact rfl; kernel_rfl) | go_big_quiet_step (fail)); (try simp only [Act.put, List.setIfInBounds_toArray, List.set_cons_succ, List.set_cons_zero]))); refine wpQuiet_nil ?_; clear hcl hf hne hs f X; intro w hs
          go_wp2_with (first | ((with_reducible refine isl ?_); first | ((with_reducible apply cpyr (i := c0 + m0) (j := c0) (q := q) hs.b1); exact rfl; exact rfl; exact rfl; exact rfl; exact Try.underlying37; exact size41; exact rws6 _; exact HLL.out; exact rws_row1; exact HQ.out; (have := HQ2.out; omega); (have := HQ2.out; omega); clear hs; intro w hs; rw [HCP.out] at hs) | ((with_reducible apply cpyr (i := c0 + m0) (j := c0) (q := q) hs); exact rfl; exact rfl; exact rfl; exact rfl; exact Try.underlying37; exact size41; exact rws6 _; exact HLL.out; exact rws_row1; exact HQ.out; (have := HQ2.out; omega); (have := HQ2.out; omega); clear hs; intro w hs; rw [HCP.out] at hs) | ((with_reducible refine wrap hs ?_); clear hs; intro w hs) | ((with_reducible refine wrapn hs ?_); clear hs; intro w hs) | ((with_reducible refine wrapd hs ?_); clear hs; intro w hs)))
          (first | refine seg_on hs (fun _ h => h) ?_ ?_ | refine seg_on hs.made (fun _ h => h) ?_ ?_ | refine seg_on hs.drew (fun _ h => h) ?_ ?_ | refine seg_on hs.drew.made (fun _ h => h) ?_ ?_ | refine seg_on (hs.drewN _) (fun _ h => h) ?_ ?_)
          · exact fun _ h => by (show sat W [cel b 55 [.slice (some ⟨g, 0, none⟩) n p9]] _; refine sb_from ?_ h; repeat constructor)
          clear hs; intro hs
          refine seg_last (fun _ h => by (show sat W [cel b 55 [.slice (some ⟨g, 0, none⟩) n p9]] _; refine sb_from ?_ h; repeat constructor)) ?_; intro X f hne hf hcl; (try simp only [Act.put, List.setIfInBounds_toArray, List.set_cons_succ, List.set_cons_zero]); (repeat ((first | ((with_reducible apply ldq (fun x => (hf x).b0)); exact rfl; exact rfl; exact rfl; exact rfl; kernel_rfl) | go_big_quiet_step (fail)); (try simp only [Act.put, List.setIfInBounds_toArray, List.set_cons_succ, List.set_cons_zero]))); refine wpQuiet_nil ?_; clear hcl hf hne hs f X; intro w hs
          go_wp2_with fail
          go_meet
          case rel => refine sb_from ?_ hs; repeat constructor
      case rest =>
        clear hs
        have hs := hcut
        go_wp2_with fail
        have HI0 : Hid (IQ (PC.bl (grC at_)) ps c0 m0 q 0 (ps.take (c0 + m0) ++ (ps.drop c0).take q)) := Lib.hid (IQ.start (by rw [HP.out.1]; have := HQ2.out; omega))
        go_loopw [47] (fun i wr => ∃ (j : Nat) (qs : List PC), j ≤ m0 ∧ i = .int .i64 (j : Int) ∧ Hid (IQ (PC.bl (grC at_)) ps c0 m0 q j qs) ∧ sat W (cel b 55 [.slice (some ⟨g, 0, none⟩) n p9] :: own 41 6 (.slice (some ⟨g, 0, none⟩) n p9) n (rws qs).flatten :: cmb ps :: cel z4 33 (aC at_) :: H) wr) (fun i _ => ((m0 : Int) - intOf i).toNat)
        case atStart => exact ⟨0, _, Nat.zero_le _, rfl, HI0, hs⟩
        case round =>
          clear hs hcut
          obtain ⟨j, qs, hj, rfl, HI, hs⟩ := hrel
          by_cases hjm : j < m0
          · have hj3 : c0 + j < n := by omega
            have hj1 : (0 : Int) ≤ (c0 : Int) + (j : Int) := by omega
            have hj2 : (c0 : Int) + (j : Int) < (n : Int) := by omega
            have HL : Hid (c0 + j < (rws qs).length) := Lib.hid (by rw [rws_len, HI.out.len]; omega)
            have HS : Hid ((rws qs).set (c0 + j) (cV (bC (grC at_)) (.slice none 0 0)) = rws (qs.set (c0 + j) (PC.bl (grC at_)))) := Lib.hid (rws_set qs (c0 + j) (PC.bl (grC at_)))
            have HI2 := Lib.hid (HI.out.next hjm)
            go_wp2_with fail
            refine region_mix [([0, 1, 2, 3, 4, 5, 6, 7], [8]), ([], [9]), ([10], [11])] [] hs (fun _ h => by (show sat W [cel b 55 [.slice (some ⟨g, 0, none⟩) n p9], cel z4 33 (aC at_)] _; refine sb_from ?_ h; repeat constructor)) (by kernel_rfl) (by kernel_rfl) (fun _ _ _ _ _ h => h) ?_
            simp only [segs, nths, nth, List.append_nil, List.nil_append, List.cons_append, List.map_cons, List.map_nil]
            refine seg_reads (fun _ h => by (show sat W [cel b 55 [.slice (some ⟨g, 0, none⟩) n p9], cel z4 33 (aC at_)] _; refine sb_from ?_ h; repeat constructor)) ?_; intro X f hne hf hcl; (try simp only [Act.put, List.setIfInBounds_toArray, List.set_cons_succ, List.set_cons_zero]); (repeat ((first | ((with_reducible apply ldsq 3 (fun x => (hf x).b0)); exact rfl; exact rfl; exact rfl; exact row33; exact rfl; exact rfl) | ((with_reducible apply ldsq 3 (fun x => (hf x).b1)); exact rfl; exact rfl; exact rfl; exact row33; exact rfl; exact rfl) | ((with_reducible apply ldq (fun x => (hf x).b0)); exact rfl; exact rfl; exact rfl; exact rfl; kernel_rfl) | ((with_reducible apply ldq (fun x => (hf x).b1)); exact rfl; exact rfl; exact rfl; exact rfl; kernel_rfl) | ((with_reducible apply ldq (fun x => (hf x).b2)); exact rfl; exact rfl; exact rfl; exact rfl; kernel_rfl) | go_big_quiet_step (fail)); (try simp only [Act.put, List.setIfInBounds_toArray, List.set_cons_succ, List.set_cons_zero]))); refine wpQuiet_nil ?_; clear hcl hf hne hs f X; intro w hs
            go_wp2_with (first | (go_at_call 43; refine (ground43 (a := at_) hs).mono ?_; clear hs; rintro e w ⟨rfl, hs⟩) | (go_at_call 30; refine (blank30 (a := grC at_) hs).mono ?_; clear hs; rintro e w ⟨rfl, hs⟩) | (first | ((with_reducible apply stor hs.b0); exact rfl; exact rfl; exact rfl; exact rfl; exact HL.out; exact rws6 _; exact row41; exact rfl; exact rfl; exact rfl; clear hs; intro w hs; rw [HS.out] at hs) | ((with_reducible apply stor hs.b1); exact rfl; exact rfl; exact rfl; exact rfl; exact HL.out; exact rws6 _; exact row41; exact rfl; exact rfl; exact rfl; clear hs; intro w hs; rw [HS.out] at hs) | ((with_reducible apply stor hs.b2); exact rfl; exact rfl; exact rfl; exact rfl; exact HL.out; exact rws6 _; exact row41; exact rfl; exact rfl; exact rfl; clear hs; intro w hs; rw [HS.out] at hs) | ((with_reducible apply stor hs.b3); exact rfl; exact rfl; exact rfl; exact rfl; exact HL.out; exact rws6 _; exact row41; exact rfl; exact rfl; exact rfl; clear hs; intro w hs; rw [HS.out] at hs)) | ((with_reducible refine isl ?_); first | ((with_reducible apply ld hs.b0); exact rfl; exact rfl; exact rfl; exact rfl; kernel_rfl) | ((with_reducible apply st hs.b0); exact rfl; exact rfl; exact rfl; exact rfl; exact rfl; exact rfl; kernel_rfl; exact rfl; clear hs; intro w hs) | ((with_reducible apply stc hs.b0); exact rfl; exact rfl; exact rfl; exact rfl; exact rfl; kernel_rfl; exact rfl; clear hs; intro w hs) | ((with_reducible refine wrap hs ?_); clear hs; intro w hs) | ((with_reducible refine wrapn hs ?_); clear hs; intro w hs) | ((with_reducible refine wrapd hs ?_); clear hs; intro w hs)))
            (first | refine seg_on hs (fun _ h => h) ?_ ?_ | refine seg_on hs.made (fun _ h => h) ?_ ?_ | refine seg_on hs.drew (fun _ h => h) ?_ ?_ | refine seg_on hs.drew.made (fun _ h => h) ?_ ?_ | refine seg_on (hs.drewN _) (fun _ h => h) ?_ ?_)
            · exact fun _ h => by (show sat W [cel b 55 [.slice (some ⟨g, 0, none⟩) n p9], cel z4 33 (aC at_)] _; refine sb_from ?_ h; repeat constructor)
            clear hs; intro hs
            refine seg_reads (fun _ h => by (show sat W [cel b 55 [.slice (some ⟨g, 0, none⟩) n p9], cel z4 33 (aC at_)] _; refine sb_from ?_ h; repeat constructor)) ?_; intro X f hne hf hcl; (try simp only [Act.put, List.setIfInBounds_toArray, List.set_cons_succ, List.set_cons_zero]); (repeat ((first | ((with_reducible apply ldsq 3 (fun x => (hf x).b0)); exact rfl; exact rfl; exact rfl; exact row33; exact rfl; exact rfl) | ((with_reducible apply ldsq 3 (fun x => (hf x).b1)); exact rfl; exact rfl; exact rfl; exact row33; exact rfl; exact rfl) | ((with_reducible apply ldq (fun x => (hf x).b0)); exact rfl; exact rfl; exact rfl; exact rfl; kernel_rfl) | ((with_reducible apply ldq (fun x => (hf x).b1)); exact rfl; exact rfl; exact rfl; exact rfl; kernel_rfl) | ((with_reducible apply ldq (fun x => (hf x).b2)); exact rfl; exact rfl; exact rfl; exact rfl; kernel_rfl) | go_big_quiet_step (fail)); (try simp only [Act.put, List.setIfInBounds_toArray, List.set_cons_succ, List.set_cons_zero]))); refine wpQuiet_nil ?_; clear hcl hf hne hs f X; intro w hs
            go_wp2_with (first | (go_at_call 43; refine (ground43 (a := at_) hs).mono ?_; clear hs; rintro e w ⟨rfl, hs⟩) | (go_at_call 30; refine (blank30 (a := grC at_) hs).mono ?_; clear hs; rintro e w ⟨rfl, hs⟩) | (first | ((with_reducible apply stor hs.b0); exact rfl; exact rfl; exact rfl; exact rfl; exact HL.out; exact rws6 _; exact row41; exact rfl; exact rfl; exact rfl; clear hs; intro w hs; rw [HS.out] at hs) | ((with_reducible apply stor hs.b1); exact rfl; exact rfl; exact rfl; exact rfl; exact HL.out; exact rws6 _; exact row41; exact rfl; exact rfl; exact rfl; clear hs; intro w hs; rw [HS.out] at hs) | ((with_reducible apply stor hs.b2); exact rfl; exact rfl; exact rfl; exact rfl; exact HL.out; exact rws6 _; exact row41; exact rfl; exact rfl; exact rfl; clear hs; intro w hs; rw [HS.out] at hs) | ((with_reducible apply stor hs.b3); exact rfl; exact rfl; exact rfl; exact rfl; exact HL.out; exact rws6 _; exact row41; exact rfl; exact rfl; exact rfl; clear hs; intro w hs; rw [HS.out] at hs)) | ((with_reducible refine isl ?_); first | ((with_reducible apply ld hs.b0); exact rfl; exact rfl; exact rfl; exact rfl; kernel_rfl) | ((with_reducible apply st hs.b0); exact rfl; exact rfl; exact rfl; exact rfl; exact rfl; exact rfl; kernel_rfl; exact rfl; clear hs; intro w hs) | ((with_reducible apply stc hs.b0); exact rfl; exact rfl; exact rfl; exact rfl; exact rfl; kernel_rfl; exact rfl; clear hs; intro w hs) | ((with_reducible refine wrap hs ?_); clear hs; intro w hs) | ((with_reducible refine wrapn hs ?_); clear hs; intro w hs) | ((with_reducible refine wrapd hs ?_); clear hs; intro w hs)))
            (first | refine seg_on hs (fun _ h => h) ?_ ?_ | refine seg_on hs.made (fun _ h => h) ?_ ?_ | refine seg_on hs.drew (fun _ h => h) ?_ ?_ | refine seg_on hs.drew.made (fun _ h => h) ?_ ?_ | refine seg_on (hs.drewN _) (fun _ h => h) ?_ ?_)
            · exact fun _ h => by (show sat W [cel b 55 [.slice (some ⟨g, 0, none⟩) n p9], cel z4 33 (aC at_)] _; refine sb_from ?_ h; repeat constructor)
            clear hs; intro hs
            refine seg_reads (fun _ h => by (show sat W [cel b 55 [.slice (some ⟨g, 0, none⟩) n p9], cel z4 33 (aC at_)] _; refine sb_from ?_ h; repeat constructor)) ?_; intro X f hne hf hcl; (try simp only [Act.put, List.setIfInBounds_toArray, List.set_cons_succ, List.set_cons_zero]); (repeat ((first | ((with_reducible apply ldsq 3 (fun x => (hf x).b0)); exact rfl; exact rfl; exact rfl; exact row33; exact rfl; exact rfl) | ((with_reducible apply ldsq 3 (fun x => (hf x).b1)); exact rfl; exact rfl; exact rfl; exact row33; exact rfl; exact rfl) | ((with_reducible apply ldq (fun x => (hf x).b0)); exact rfl; exact rfl; exact rfl; exact rfl; kernel_rfl) | ((with_reducible apply ldq (fun x => (hf x).b1)); exact rfl; exact rfl; exact rfl; exact rfl; kernel_rfl) | ((with_reducible apply ldq (fun x => (hf x).b2)); exact rfl; exact rfl; exact rfl; exact rfl; kernel_rfl) | go_big_quiet_step (fail)); (try simp only [Act.put, List.setIfInBounds_toArray, List.set_cons_succ, List.set_cons_zero]))); refine wpQuiet_nil ?_; clear hcl hf hne hs f X; intro w hs
            go_wp2_with (first | (go_at_call 43; refine (ground43 (a := at_) hs).mono ?_; clear hs; rintro e w ⟨rfl, hs⟩) | (go_at_call 30; refine (blank30 (a := grC at_) hs).mono ?_; clear hs; rintro e w ⟨rfl, hs⟩) | (first | ((with_reducible apply stor hs.b0); exact rfl; exact rfl; exact rfl; exact rfl; exact HL.out; exact rws6 _; exact row41; exact rfl; exact rfl; exact rfl; clear hs; intro w hs; rw [HS.out] at hs) | ((with_reducible apply stor hs.b1); exact rfl; exact rfl; exact rfl; exact rfl; exact HL.out; exact rws6 _; exact row41; exact rfl; exact rfl; exact rfl; clear hs; intro w hs; rw [HS.out] at hs) | ((with_reducible apply stor hs.b2); exact rfl; exact rfl; exact rfl; exact rfl; exact HL.out; exact rws6 _; exact row41; exact rfl; exact rfl; exact rfl; clear hs; intro w hs; rw [HS.out] at hs) | ((with_reducible apply stor hs.b3); exact rfl; exact rfl; exact rfl; exact rfl; exact HL.out; exact rws6 _; exact row41; exact rfl; exact rfl; exact rfl; clear hs; intro w hs; rw [HS.out] at hs)) | ((with_reducible refine isl ?_); first | ((with_reducible apply ld hs.b0); exact rfl; exact rfl; exact rfl; exact rfl; kernel_rfl) | ((with_reducible apply st hs.b0); exact rfl; exact rfl; exact rfl; exact rfl; exact rfl; exact rfl; kernel_rfl; exact rfl; clear hs; intro w hs) | ((with_reducible apply stc hs.b0); exact rfl; exact rfl; exact rfl; exact rfl; exact rfl; kernel_rfl; exact rfl; clear hs; intro w hs) | ((with_reducible refine wrap hs ?_); clear hs; intro w hs) | ((with_reducible refine wrapn hs ?_); clear hs; intro w hs) | ((with_reducible refine wrapd hs ?_); clear hs; intro w hs)))
            (first | refine seg_on hs (fun _ h => h) ?_ ?_ | refine seg_on hs.made (fun _ h => h) ?_ ?_ | refine seg_on hs.drew (fun _ h => h) ?_ ?_ | refine seg_on hs.drew.made (fun _ h => h) ?_ ?_ | refine seg_on (hs.drewN _) (fun _ h => h) ?_ ?_)
            · exact fun _ h => by (show sat W [cel b 55 [.slice (some ⟨g, 0, none⟩) n p9], cel z4 33 (aC at_)] _; refine sb_from ?_ h; repeat constructor)
            clear hs; intro hs
            refine seg_last (fun _ h => by (show sat W [cel b 55 [.slice (some ⟨g, 0, none⟩) n p9], cel z4 33 (aC at_)] _; refine sb_from ?_ h; repeat constructor)) ?_; intro X f hne hf hcl; (try simp only [Act.put, List.setIfInBounds_toArray, List.set_cons_succ, List.set_cons_zero]); (repeat ((first | ((with_reducible apply ldsq 3 (fun x => (hf x).b0)); exact rfl; exact rfl; exact rfl; exact row33; exact rfl; exact rfl) | ((with_reducible apply ldsq 3 (fun x => (hf x).b1)); exact rfl; exact rfl; exact rfl; exact row33; exact rfl; exact rfl) | ((with_reducible apply ldq (fun x => (hf x).b0)); exact rfl; exact rfl; exact rfl; exact rfl; kernel_rfl) | ((with_reducible apply ldq (fun x => (hf x).b1)); exact rfl; exact rfl; exact rfl; exact rfl; kernel_rfl) | ((with_reducible apply ldq (fun x => (hf x).b2)); exact rfl; exact rfl; exact rfl; exact rfl; kernel_rfl) | go_big_quiet_step (fail)); (try simp only [Act.put, List.setIfInBounds_toArray, List.set_cons_succ, List.set_cons_zero]))); refine wpQuiet_nil ?_; clear hcl hf hne hs f X; intro w hs
            go_wp2_with fail
            go_roundw
            case rel => exact ⟨j + 1, _, by omega, by go_num, HI2, by refine sb_from ?_ hs; repeat constructor⟩
            case measure => simp [intOf]; omega
          · have hge : ¬ (j : Int) < (m0 : Int) := by omega
            have hjm2 : j = m0 := by omega
            have hq := HI.out
            rw [hjm2] at hq
            have hq2 := hq.fin
            rw [hq2] at hs
            have h5 : sat W (cmb (ps.take c0 ++ List.replicate m0 (PC.bl (grC at_)) ++ (ps.drop c0).take q) :: cel b 55 [.slice (some ⟨g, 0, none⟩) n p9] :: own 41 6 (.slice (some ⟨g, 0, none⟩) n p9) n (rws (ps.take c0 ++ List.replicate m0 (PC.bl (grC at_)) ++ (ps.drop c0).take q)).flatten :: cel z4 33 (aC at_) :: H) wr := by
              have h6 : sat W (cmb (ps.take c0 ++ ps.drop c0) :: cel b 55 [.slice (some ⟨g, 0, none⟩) n p9] :: own 41 6 (.slice (some ⟨g, 0, none⟩) n p9) n (rws (ps.take c0 ++ List.replicate m0 (PC.bl (grC at_)) ++ (ps.drop c0).take q)).flatten :: cel z4 33 (aC at_) :: H) wr := by
                rw [List.take_append_drop]
                refine sb_from ?_ hs; repeat constructor
              have h7 := cmb_take q (cmb_split h6).b1
              have h8 := cmb_bls (a := grC at_) m0 h7
              have h10 := cmb_app h8.b1
              rw [← List.append_assoc] at h10
              exact h10
            have HLQ : Hid ((ps.take c0 ++ List.replicate m0 (PC.bl (grC at_)) ++ (ps.drop c0).take q).length = n) := Lib.hid (by rw [← hq2, hq.len]; exact HQ2.out)
            have h9 := rw_close (ps := ps.take c0 ++ List.replicate m0 (PC.bl (grC at_)) ++ (ps.drop c0).take q) (T := 55) (b := b) (n := n) (a := some ⟨g, 0, none⟩) (p := p9) HLQ.out (by refine sb_from ?_ h5; repeat constructor)
            have HLM : Hid (((ps.take c0 ++ List.replicate m0 (PC.bl (grC at_)) ++ (ps.drop c0).take q).map (·.c)).length = n) := Lib.hid (by rw [List.length_map]; exact HLQ.out)
            have HZ2 : Hid (insG l k m at_ = md 0 ((ps.take c0 ++ List.replicate m0 (PC.bl (grC at_)) ++ (ps.drop c0).take q).map (·.c))) := Lib.hid (by
              rw [HZ.out, ← HP.out.2, show n - (c0 + m0) = q from by have := HQ2.out; omega]
              simp only [List.map_append, List.map_take, List.map_drop, List.map_replicate]
              rfl)
            clear hs h5 hq hq2 hjm hjm2
            go_wp2_with (first | (go_at_call 44; refine (mend44 HLM.out h0 h512 h9).mono ?_; clear h9; rintro e w ⟨rfl, hs⟩) | ((with_reducible refine isl ?_); first | ((with_reducible refine wrap hs ?_); clear hs; intro w hs) | ((with_reducible refine wrapn hs ?_); clear hs; intro w hs) | ((with_reducible refine wrapd hs ?_); clear hs; intro w hs)))
            go_ret
            exact ⟨rfl, by rw [HZ2.out]; refine sb_from ?_ hs; repeat constructor⟩
theorem delete14 {b n : Nat} {l : List C} {k m : Int} {at_ : At} (hn : l.length = n) (h0 : 0 < n) (h512 : n ≤ 1000) (hs : sat W (rwP 55 b l :: H) w) :
    Calls Try.prog 14 #[.pointer (some ⟨b, 0, none⟩), .int .i64 k, .int .i64 m, aV at_] w fun e w' => e = .returned (.int .i64 0) ∧ sat W (rwP 55 b (delG l k m at_) :: H) w' := by
  obtain ⟨c0, hc0⟩ : ∃ c0 : Nat, (c0 : Int) = min (max k 0) (n : Int) := ⟨(min (max k 0) (n : Int)).toNat, by omega⟩
  have hc1 : c0 ≤ n := by omega
  obtain ⟨m0, hm0⟩ : ∃ m0 : Nat, (m0 : Int) = min (max m 0) ((n : Int) - c0) := ⟨(min (max m 0) ((n : Int) - c0)).toNat, by omega⟩
  have hm1 : c0 + m0 ≤ n := by omega
  have HF1 := Lib.hid hc0.symm
  have HM0 := Lib.hid hm0
  have HN0 := Lib.hid hn
  obtain ⟨l1, hl1⟩ : ∃ l1, partC l (c0 : Int) = l1 := ⟨_, rfl⟩
  obtain ⟨l2, hl2⟩ : ∃ l2, partC l1 ((c0 : Int) + (m0 : Int)) = l2 := ⟨_, rfl⟩
  have HN1 : Hid (l1.length = n) := Lib.hid (by rw [← hl1, partC_length, hn])
  have HL1 := Lib.hid hl1
  have HN2 : Hid (l2.length = n) := Lib.hid (by rw [← hl2, partC_length, HN1.out])
  have HL2 := Lib.hid hl2
  have HG : Hid (delG l k m at_ = if m0 = 0 then l else l2.take c0 ++ l2.drop (c0 + m0) ++ List.replicate m0 (bC (grC at_))) := Lib.hid (by
    have ef : (min (max k 0) (l.length : Int)).toNat = c0 := by rw [hn]; omega
    have et : (min (max m 0) ((l.length : Int) - (c0 : Int))).toNat = m0 := by rw [hn]; omega
    unfold delG
    rw [ef]
    simp only
    rw [et, hl1, hl2])
  have hb1 : (0 : Int) ≤ (c0 : Int) + (m0 : Int) := by omega
  have hb2 : (c0 : Int) + (m0 : Int) ≤ (n : Int) := by omega
  have hb3 : (c0 : Int) ≤ (n : Int) := by omega
  clear hc0 hm0 hn hl1 hl2
  go_enter Try.func14, Try.ntmps14
  go_upto_region 4 with (first | (go_at_call 40; refine (ready40 HN0.out h0 (by apply sk_from (hs := hs); repeat constructor)).mono ?_; clear hs; rintro e w ⟨rfl, hs⟩) | (go_at_call 41; refine (held41 HN0.out (by apply sk_from (hs := hs); repeat constructor)).mono ?_; clear hs; rintro e w ⟨rfl, hs⟩; rw [HF1.out]) | ((with_reducible refine isl ?_); first | ((with_reducible apply ld hs.b0); exact rfl; exact rfl; exact rfl; exact rfl; kernel_rfl) | ((with_reducible apply ld hs.b1); exact rfl; exact rfl; exact rfl; exact rfl; kernel_rfl) | ((with_reducible apply st hs.b0); exact rfl; exact rfl; exact rfl; exact rfl; exact rfl; exact rfl; kernel_rfl; exact rfl; clear hs; intro w hs) | ((with_reducible apply st hs.b1); exact rfl; exact rfl; exact rfl; exact rfl; exact rfl; exact rfl; kernel_rfl; exact rfl; clear hs; intro w hs) | ((with_reducible apply stc hs.b0); exact rfl; exact rfl; exact rfl; exact rfl; exact rfl; kernel_rfl; exact rfl; clear hs; intro w hs) | ((with_reducible apply stc hs.b1); exact rfl; exact rfl; exact rfl; exact rfl; exact rfl; kernel_rfl; exact rfl; clear hs; intro w hs) | ((with_reducible refine wrap hs ?_); clear hs; (first | generalize w.heap.size = z4); intro w hs) | ((with_reducible refine wrap hs ?_); clear hs; intro w hs) | ((with_reducible refine wrapn hs ?_); clear hs; intro w hs) | ((with_reducible refine wrapd hs ?_); clear hs; intro w hs)))
  go_cut [2] (fun v wx => v = .int .i64 (m0 : Int) ∧ sat W (rwP 55 b l :: cel z4 33 (aC at_) :: H) wx)
  case first =>
    obtain ⟨ps, a9, p9, hps, hs⟩ := rw_open HN0.out hs; have HP : Hid (ps.length = n ∧ ps.map (·.c) = l) := Lib.hid ⟨by rw [← HN0.out, ← hps, List.length_map], hps⟩; clear hps
    go_wp2_with (first | ((with_reducible refine isl ?_); first | ((with_reducible apply ld hs.b0); exact rfl; exact rfl; exact rfl; exact rfl; kernel_rfl) | ((with_reducible apply ld hs.b1); exact rfl; exact rfl; exact rfl; exact rfl; kernel_rfl) | ((with_reducible apply st hs.b0); exact rfl; exact rfl; exact rfl; exact rfl; exact rfl; exact rfl; kernel_rfl; exact rfl; clear hs; intro w hs) | ((with_reducible apply st hs.b1); exact rfl; exact rfl; exact rfl; exact rfl; exact rfl; exact rfl; kernel_rfl; exact rfl; clear hs; intro w hs) | ((with_reducible apply stc hs.b0); exact rfl; exact rfl; exact rfl; exact rfl; exact rfl; kernel_rfl; exact rfl; clear hs; intro w hs) | ((with_reducible apply stc hs.b1); exact rfl; exact rfl; exact rfl; exact rfl; exact rfl; kernel_rfl; exact rfl; clear hs; intro w hs) | ((with_reducible refine wrap hs ?_); clear hs; intro w hs) | ((with_reducible refine wrapn hs ?_); clear hs; intro w hs) | ((with_reducible refine wrapd hs ?_); clear hs; intro w hs)))
    all_goals
      go_meet
      refine ⟨by have := HM0.out; congr 1; omega, ?_⟩
      have hs := (show sat W (rwP 55 b l :: cel z4 33 (aC at_) :: H) w from by have h6 := rw_close HP.out.1 (by refine sb_from ?_ hs; repeat constructor : sat W (cel b 55 [.slice a9 n p9] :: own 41 6 (.slice a9 n p9) n (rws ps).flatten :: cmb ps :: cel z4 33 (aC at_) :: H) w); rw [HP.out.2] at h6; exact h6)
      exact hs
  case rest =>
    clear hs
    obtain ⟨rfl, hs⟩ := hcut
    by_cases hz : m0 = 0
    · have HZ : Hid (delG l k m at_ = l) := Lib.hid (by rw [HG.out, if_pos hz])
      go_wp2_with (first | ((with_reducible refine isl ?_); first | ((with_reducible apply ld hs.b0); exact rfl; exact rfl; exact rfl; exact rfl; kernel_rfl) | ((with_reducible apply st hs.b0); exact rfl; exact rfl; exact rfl; exact rfl; exact rfl; exact rfl; kernel_rfl; exact rfl; clear hs; intro w hs) | ((with_reducible apply stc hs.b0); exact rfl; exact rfl; exact rfl; exact rfl; exact rfl; kernel_rfl; exact rfl; clear hs; intro w hs) | ((with_reducible refine wrap hs ?_); clear hs; intro w hs) | ((with_reducible refine wrapn hs ?_); clear hs; intro w hs) | ((with_reducible refine wrapd hs ?_); clear hs; intro w hs)))
      go_ret
      exact ⟨rfl, by rw [HZ.out]; refine sb_from ?_ hs; repeat constructor⟩
    · have HZ : Hid (delG l k m at_ = l2.take c0 ++ l2.drop (c0 + m0) ++ List.replicate m0 (bC (grC at_))) := Lib.hid (by rw [HG.out, if_neg hz])
      go_upto_region 9 with (first | (go_at_call 42; refine (part42 HN0.out h512 (by apply sk_from (hs := hs); repeat constructor)).mono ?_; clear hs; rintro e w ⟨rfl, hs⟩; rw [HL1.out] at hs) | (go_at_call 42; refine (part42 HN1.out h512 (by apply sk_from (hs := hs); repeat constructor)).mono ?_; clear hs; rintro e w ⟨rfl, hs⟩; rw [HL2.out] at hs) | ((with_reducible refine isl ?_); first | ((with_reducible apply ld hs.b0); exact rfl; exact rfl; exact rfl; exact rfl; kernel_rfl) | ((with_reducible apply ld hs.b1); exact rfl; exact rfl; exact rfl; exact rfl; kernel_rfl) | ((with_reducible apply st hs.b0); exact rfl; exact rfl; exact rfl; exact rfl; exact rfl; exact rfl; kernel_rfl; exact rfl; clear hs; intro w hs) | ((with_reducible apply st hs.b1); exact rfl; exact rfl; exact rfl; exact rfl; exact rfl; exact rfl; kernel_rfl; exact rfl; clear hs; intro w hs) | ((with_reducible apply stc hs.b0); exact rfl; exact rfl; exact rfl; exact rfl; exact rfl; kernel_rfl; exact rfl; clear hs; intro w hs) | ((with_reducible apply stc hs.b1); exact rfl; exact rfl; exact rfl; exact rfl; exact rfl; kernel_rfl; exact rfl; clear hs; intro w hs) | ((with_reducible refine wrap hs ?_); clear hs; intro w hs) | ((with_reducible refine wrapn hs ?_); clear hs; intro w hs) | ((with_reducible refine wrapd hs ?_); clear hs; intro w hs)))
      obtain ⟨ps, a9, p9, hps, hs⟩ := rw_open HN2.out hs
      have hpn : ps.length = n := by rw [← HN2.out, ← hps, List.length_map]
      obtain ⟨g, rfl⟩ := own_ptr h0 hs.b1
      have HP := Lib.hid (And.intro hpn hps)
      have HLL : Hid ((rws ps).length = n) := Lib.hid (by rw [rws_len, hpn])
      obtain ⟨q, hq⟩ : ∃ q, n - (c0 + m0) = q := ⟨_, rfl⟩
      have HQ : Hid (Nat.min (n - (c0 + m0)) (n - c0) = q) := Lib.hid (by rw [← hq]; exact Nat.min_eq_left (by omega))
      have hq2 : c0 + m0 + q = n := by omega
      have HCP : Hid ((rws ps).take c0 ++ ((rws ps).drop (c0 + m0)).take q ++ (rws ps).drop (c0 + q) = rws (ps.take c0 ++ ps.drop (c0 + m0) ++ ps.drop (c0 + q))) := Lib.hid (by
        rw [rws_take, rws_drop, rws_take, rws_drop, ← rws_app, ← rws_app, List.take_of_length_le (l := ps.drop (c0 + m0)) (by rw [List.length_drop]; omega)])
      have HCP0 : Hid (q = 0 → (rws ps).take c0 ++ ((rws ps).drop 0).take q ++ (rws ps).drop (c0 + q) = rws (ps.take c0 ++ ps.drop (c0 + m0) ++ ps.drop (c0 + q))) := Lib.hid (by
        intro h
        subst h
        rw [List.drop_eq_nil_of_le (show ps.length ≤ c0 + m0 by omega)]
        simp [rws_take, rws_drop, ← rws_app])
      have HQ2 := Lib.hid hq2
      have hcap := hs.b1.own_len.1
      clear hpn hps hq hq2
      go_cut [] (fun wx => sat W (cel b 55 [.slice (some ⟨g, 0, none⟩) n p9] :: own 41 6 (.slice (some ⟨g, 0, none⟩) n p9) n (rws (ps.take c0 ++ ps.drop (c0 + m0) ++ ps.drop (c0 + q))).flatten :: cmb ps :: cel z4 33 (aC at_) :: H) wx)
      case first =>
        by_cases hp : p9 = c0 + m0
        · have hq0 : q = 0 := by have := HQ2.out; omega
          have HQ0 := Lib.hid hq0
          have hp1 : ¬ p9 = c0 := by omega
          clear hq0
          refine region_mix [([0, 1, 2, 3, 4, 5, 6, 7, 8, 9, 10, 11, 12, 13], [14])] [] hs (fun _ h => by (show sat W [cel b 55 [.slice (some ⟨g, 0, none⟩) n p9]] _; refine sb_from ?_ h; repeat constructor)) (by kernel_rfl) (by kernel_rfl) (fun _ _ _ _ _ h => h) ?_
          simp only [segs, nths, nth, List.append_nil, List.nil_append, List.cons_append, List.map_cons, List.map_nil]
          refine seg_reads (fun _ h => by (show sat W [cel b 55 [.slice (some ⟨g, 0, none⟩) n p9]] _; refine sb_from ?_ h; repeat constructor)) ?_; intro X f hne hf hcl; (try simp only [Act.put, List.setIfInBounds_toArray, List.set_cons_succ, List.set_cons_zero]); (repeat ((first | ((with_reducible apply ldq (fun x => (hf x).b0)); exact rfl; exact rfl; exact rfl; exact rfl; kernel_rfl) | go_big_quiet_step (fail)); (try simp only [Act.put, List.setIfInBounds_toArray, List.set_cons_succ, List.set_cons_zero]))); refine wpQuiet_nil ?_; clear hcl hf hne hs f X; intro w hs
          go_wp2_with (first | ((with_reducible refine isl ?_); first | ((with_reducible apply cpyr (i := c0) (j := 0) (q := q) hs.b1); exact rfl; exact rfl; exact rfl; exact rfl; exact Try.underlying37; exact size41; exact rws6 _; exact HLL.out; exact rws_row1; exact HQ.out; (have := HQ2.out; omega); (have := HQ2.out; omega); clear hs; intro w hs; rw [HCP0.out HQ0.out] at hs) | ((with_reducible apply cpyr (i := c0) (j := 0) (q := q) hs); exact rfl; exact rfl; exact rfl; exact rfl; exact Try.underlying37; exact size41; exact rws6 _; exact HLL.out; exact rws_row1; exact HQ.out; (have := HQ2.out; omega); (have := HQ2.out; omega); clear hs; intro w hs; rw [HCP0.out HQ0.out] at hs) | ((with_reducible refine wrap hs ?_); clear hs; intro w hs) | ((with_reducible refine wrapn hs ?_); clear hs; intro w hs) | ((with_reducible refine wrapd hs ?_); clear hs; intro w hs)))
          (first | refine seg_on hs (fun _ h => h) ?_ ?_ | refine seg_on hs.made (fun _ h => h) ?_ ?_ | refine seg_on hs.drew (fun _ h => h) ?_ ?_ | refine seg_on hs.drew.made (fun _ h => h) ?_ ?_ | refine seg_on (hs.drewN _) (fun _ h => h) ?_ ?_)
          · exact fun _ h => by (show sat W [cel b 55 [.slice (some ⟨g, 0, none⟩) n p9]] _; refine sb_from ?_ h; repeat constructor)
          clear hs; intro hs
          refine seg_last (fun _ h => by (show sat W [cel b 55 [.slice (some ⟨g, 0, none⟩) n p9]] _; refine sb_from ?_ h; repeat constructor)) ?_; intro X f hne hf hcl; (try simp only [Act.put, List.setIfInBounds_toArray, List.set_cons_succ, List.set_cons_zero]); (repeat ((first | ((with_reducible apply ldq (fun x => (hf x).b0)); exact rfl; exact rfl; exact rfl; exact rfl; kernel_rfl) | go_big_quiet_step (fail)); (try simp only [Act.put, List.setIfInBounds_toArray, List.set_cons_succ, List.set_cons_zero]))); refine wpQuiet_nil ?_; clear hcl hf hne hs f X; intro w hs
          go_wp2_with fail
          go_meet
          case rel => refine sb_from ?_ hs; repeat constructor
        · have hp1 : ¬ p9 = c0 := by omega
          have hp2 : ¬ c0 + m0 = p9 := by omega
          have hp3 : ¬ p9 - (c0 + m0) = 0 := by omega
          have hp4 : ¬ p9 ≤ c0 + m0 := by omega
          refine region_mix [([0, 1, 2, 3, 4, 5, 6, 7, 8, 9, 10, 11, 12, 13], [14])] [] hs (fun _ h => by (show sat W [cel b 55 [.slice (some ⟨g, 0, none⟩) n p9]] _; refine sb_from ?_ h; repeat constructor)) (by kernel_rfl) (by kernel_rfl) (fun _ _ _ _ _ h => h) ?_
          simp only [segs, nths, nth, List.append_nil, List.nil_append, List.cons_append, List.map_cons, List.map_nil]
          refine seg_reads (fun _ h => by (show sat W [cel b 55 [.slice (some ⟨g, 0, none⟩) n p9]] _; refine sb_from ?_ h; repeat constructor)) ?_; intro X f hne hf hcl; (try simp only [Act.put, List.setIfInBounds_toArray, List.set_cons_succ, List.set_cons_zero]); (repeat ((first | ((with_reducible apply ldq (fun x => (hf x).b0)); exact rfl; exact rfl; exact rfl; exact rfl; kernel_rfl) | go_big_quiet_step (fail)); (try simp only [Act.put, List.setIfInBounds_toArray, List.set_cons_succ, List.set_cons_zero]))); refine wpQuiet_nil ?_; clear hcl hf hne hs f X; intro w hs
          go_wp2_with (first | ((with_reducible refine isl ?_); first | ((with_reducible apply cpyr (i := c0) (j := c0 + m0) (q := q) hs.b1); exact rfl; exact rfl; exact rfl; exact rfl; exact Try.underlying37; exact size41; exact rws6 _; exact HLL.out; exact rws_row1; exact HQ.out; (have := HQ2.out; omega); (have := HQ2.out; omega); clear hs; intro w hs; rw [HCP.out] at hs) | ((with_reducible apply cpyr (i := c0) (j := c0 + m0) (q := q) hs); exact rfl; exact rfl; exact rfl; exact rfl; exact Try.underlying37; exact size41; exact rws6 _; exact HLL.out; exact rws_row1; exact HQ.out; (have := HQ2.out; omega); (have := HQ2.out; omega); clear hs; intro w hs; rw [HCP.out] at hs) | ((with_reducible refine wrap hs ?_); clear hs; intro w hs) | ((with_reducible refine wrapn hs ?_); clear hs; intro w hs) | ((with_reducible refine wrapd hs ?_); clear hs; intro w hs)))
          (first | refine seg_on hs (fun _ h => h) ?_ ?_ | refine seg_on hs.made (fun _ h => h) ?_ ?_ | refine seg_on hs.drew (fun _ h => h) ?_ ?_ | refine seg_on hs.drew.made (fun _ h => h) ?_ ?_ | refine seg_on (hs.drewN _) (fun _ h => h) ?_ ?_)
          · exact fun _ h => by (show sat W [cel b 55 [.slice (some ⟨g, 0, none⟩) n p9]] _; refine sb_from ?_ h; repeat constructor)
          clear hs; intro hs
          refine seg_last (fun _ h => by (show sat W [cel b 55 [.slice (some ⟨g, 0, none⟩) n p9]] _; refine sb_from ?_ h; repeat constructor)) ?_; intro X f hne hf hcl; (try simp only [Act.put, List.setIfInBounds_toArray, List.set_cons_succ, List.set_cons_zero]); (repeat ((first | ((with_reducible apply ldq (fun x => (hf x).b0)); exact rfl; exact rfl; exact rfl; exact rfl; kernel_rfl) | go_big_quiet_step (fail)); (try simp only [Act.put, List.setIfInBounds_toArray, List.set_cons_succ, List.set_cons_zero]))); refine wpQuiet_nil ?_; clear hcl hf hne hs f X; intro w hs
          go_wp2_with fail
          go_meet
          case rel => refine sb_from ?_ hs; repeat constructor
      case rest =>
        clear hs
        have hs := hcut
        have hnm : ((n : Int) - (m0 : Int)) = ((c0 + q : Nat) : Int) := by have := HQ2.out; omega
        go_wp2_with (first | ((with_reducible refine isl ?_); first | ((with_reducible apply ld hs.b0); exact rfl; exact rfl; exact rfl; exact rfl; kernel_rfl) | ((with_reducible apply st hs.b0); exact rfl; exact rfl; exact rfl; exact rfl; exact rfl; exact rfl; kernel_rfl; exact rfl; clear hs; intro w hs) | ((with_reducible apply stc hs.b0); exact rfl; exact rfl; exact rfl; exact rfl; exact rfl; kernel_rfl; exact rfl; clear hs; intro w hs) | ((with_reducible refine wrap hs ?_); clear hs; intro w hs) | ((with_reducible refine wrapn hs ?_); clear hs; intro w hs) | ((with_reducible refine wrapd hs ?_); clear hs; intro w hs)))
        have HI0 : Hid (JQ (PC.bl (grC at_)) ps c0 m0 q 0 (ps.take c0 ++ ps.drop (c0 + m0) ++ ps.drop (c0 + q))) := Lib.hid (JQ.start (by rw [HP.out.1]; have := HQ2.out; omega))
        go_loopw [9] (fun i wr => ∃ (j : Nat) (qs : List PC), j ≤ m0 ∧ i = .int .i64 ((c0 + q + j : Nat) : Int) ∧ Hid (JQ (PC.bl (grC at_)) ps c0 m0 q j qs) ∧ sat W (cel b 55 [.slice (some ⟨g, 0, none⟩) n p9] :: own 41 6 (.slice (some ⟨g, 0, none⟩) n p9) n (rws qs).flatten :: cmb ps :: cel z4 33 (aC at_) :: H) wr) (fun i _ => ((n : Int) - intOf i).toNat)
        case atStart => exact ⟨0, _, Nat.zero_le _, rfl, HI0, hs⟩
        case round =>
          clear hs hcut
          obtain ⟨j, qs, hj, rfl, HI, hs⟩ := hrel
          obtain ⟨i9, hi9⟩ : ∃ i9, c0 + q + j = i9 := ⟨_, rfl⟩
          have HI9 := Lib.hid hi9
          rw [hi9]
          by_cases hjm : j < m0
          · have hj3 : i9 < n := by have := HQ2.out; omega
            have HL : Hid (i9 < (rws qs).length) := Lib.hid (by rw [rws_len, HI.out.len]; have := HQ2.out; omega)
            have HS : Hid ((rws qs).set i9 (cV (bC (grC at_)) (.slice none 0 0)) = rws (qs.set i9 (PC.bl (grC at_)))) := Lib.hid (rws_set qs i9 (PC.bl (grC at_)))
            have HI2 : Hid (JQ (PC.bl (grC at_)) ps c0 m0 q (j + 1) (qs.set i9 (PC.bl (grC at_)))) := Lib.hid (by rw [← hi9]; exact HI.out.next hjm)
            clear hi9
            go_wp2_with (first | ((with_reducible refine isl ?_); first | ((with_reducible apply ld hs.b0); exact rfl; exact rfl; exact rfl; exact rfl; kernel_rfl) | ((with_reducible apply st hs.b0); exact rfl; exact rfl; exact rfl; exact rfl; exact rfl; exact rfl; kernel_rfl; exact rfl; clear hs; intro w hs) | ((with_reducible apply stc hs.b0); exact rfl; exact rfl; exact rfl; exact rfl; exact rfl; kernel_rfl; exact rfl; clear hs; intro w hs) | ((with_reducible refine wrap hs ?_); clear hs; intro w hs) | ((with_reducible refine wrapn hs ?_); clear hs; intro w hs) | ((with_reducible refine wrapd hs ?_); clear hs; intro w hs)))
            refine region_mix [([0, 1, 2, 3, 4, 5], [6]), ([], [7]), ([8], [9])] [] hs (fun _ h => by (show sat W [cel b 55 [.slice (some ⟨g, 0, none⟩) n p9], cel z4 33 (aC at_)] _; refine sb_from ?_ h; repeat constructor)) (by kernel_rfl) (by kernel_rfl) (fun _ _ _ _ _ h => h) ?_
            simp only [segs, nths, nth, List.append_nil, List.nil_append, List.cons_append, List.map_cons, List.map_nil]
            refine seg_reads (fun _ h => by (show sat W [cel b 55 [.slice (some ⟨g, 0, none⟩) n p9], cel z4 33 (aC at_)] _; refine sb_from ?_ h; repeat constructor)) ?_; intro X f hne hf hcl; (try simp only [Act.put, List.setIfInBounds_toArray, List.set_cons_succ, List.set_cons_zero]); (repeat ((first | ((with_reducible apply ldsq 3 (fun x => (hf x).b0)); exact rfl; exact rfl; exact rfl; exact row33; exact rfl; exact rfl) | ((with_reducible apply ldsq 3 (fun x => (hf x).b1)); exact rfl; exact rfl; exact rfl; exact row33; exact rfl; exact rfl) | ((with_reducible apply ldq (fun x => (hf x).b0)); exact rfl; exact rfl; exact rfl; exact rfl; kernel_rfl) | ((with_reducible apply ldq (fun x => (hf x).b1)); exact rfl; exact rfl; exact rfl; exact rfl; kernel_rfl) | ((with_reducible apply ldq (fun x => (hf x).b2)); exact rfl; exact rfl; exact rfl; exact rfl; kernel_rfl) | go_big_quiet_step (fail)); (try simp only [Act.put, List.setIfInBounds_toArray, List.set_cons_succ, List.set_cons_zero]))); refine wpQuiet_nil ?_; clear hcl hf hne hs f X; intro w hs
            go_wp2_with (first | (go_at_call 43; refine (ground43 (a := at_) hs).mono ?_; clear hs; rintro e w ⟨rfl, hs⟩) | (go_at_call 30; refine (blank30 (a := grC at_) hs).mono ?_; clear hs; rintro e w ⟨rfl, hs⟩) | (first | ((with_reducible apply stor hs.b0); exact rfl; exact rfl; exact rfl; exact rfl; exact HL.out; exact rws6 _; exact row41; exact rfl; exact rfl; exact rfl; clear hs; intro w hs; rw [HS.out] at hs) | ((with_reducible apply stor hs.b1); exact rfl; exact rfl; exact rfl; exact rfl; exact HL.out; exact rws6 _; exact row41; exact rfl; exact rfl; exact rfl; clear hs; intro w hs; rw [HS.out] at hs) | ((with_reducible apply stor hs.b2); exact rfl; exact rfl; exact rfl; exact rfl; exact HL.out; exact rws6 _; exact row41; exact rfl; exact rfl; exact rfl; clear hs; intro w hs; rw [HS.out] at hs) | ((with_reducible apply stor hs.b3); exact rfl; exact rfl; exact rfl; exact rfl; exact HL.out; exact rws6 _; exact row41; exact rfl; exact rfl; exact rfl; clear hs; intro w hs; rw [HS.out] at hs)) | ((with_reducible refine isl ?_); first | ((with_reducible apply ld hs.b0); exact rfl; exact rfl; exact rfl; exact rfl; kernel_rfl) | ((with_reducible apply st hs.b0); exact rfl; exact rfl; exact rfl; exact rfl; exact rfl; exact rfl; kernel_rfl; exact rfl; clear hs; intro w hs) | ((with_reducible apply stc hs.b0); exact rfl; exact rfl; exact rfl; exact rfl; exact rfl; kernel_rfl; exact rfl; clear hs; intro w hs) | ((with_reducible refine wrap hs ?_); clear hs; intro w hs) | ((with_reducible refine wrapn hs ?_); clear hs; intro w hs) | ((with_reducible refine wrapd hs ?_); clear hs; intro w hs)))
            (first | refine seg_on hs (fun _ h => h) ?_ ?_ | refine seg_on hs.made (fun _ h => h) ?_ ?_ | refine seg_on hs.drew (fun _ h => h) ?_ ?_ | refine seg_on hs.drew.made (fun _ h => h) ?_ ?_ | refine seg_on (hs.drewN _) (fun _ h => h) ?_ ?_)
            · exact fun _ h => by (show sat W [cel b 55 [.slice (some ⟨g, 0, none⟩) n p9], cel z4 33 (aC at_)] _; refine sb_from ?_ h; repeat constructor)
            clear hs; intro hs
            refine seg_reads (fun _ h => by (show sat W [cel b 55 [.slice (some ⟨g, 0, none⟩) n p9], cel z4 33 (aC at_)] _; refine sb_from ?_ h; repeat constructor)) ?_; intro X f hne hf hcl; (try simp only [Act.put, List.setIfInBounds_toArray, List.set_cons_succ, List.set_cons_zero]); (repeat ((first | ((with_reducible apply ldsq 3 (fun x => (hf x).b0)); exact rfl; exact rfl; exact rfl; exact row33; exact rfl; exact rfl) | ((with_reducible apply ldsq 3 (fun x => (hf x).b1)); exact rfl; exact rfl; exact rfl; exact row33; exact rfl; exact rfl) | ((with_reducible apply ldq (fun x => (hf x).b0)); exact rfl; exact rfl; exact rfl; exact rfl; kernel_rfl) | ((with_reducible apply ldq (fun x => (hf x).b1)); exact rfl; exact rfl; exact rfl; exact rfl; kernel_rfl) | ((with_reducible apply ldq (fun x => (hf x).b2)); exact rfl; exact rfl; exact rfl; exact rfl; kernel_rfl) | go_big_quiet_step (fail)); (try simp only [Act.put, List.setIfInBounds_toArray, List.set_cons_succ, List.set_cons_zero]))); refine wpQuiet_nil ?_; clear hcl hf hne hs f X; intro w hs
            go_wp2_with (first | (go_at_call 43; refine (ground43 (a := at_) hs).mono ?_; clear hs; rintro e w ⟨rfl, hs⟩) | (go_at_call 30; refine (blank30 (a := grC at_) hs).mono ?_; clear hs; rintro e w ⟨rfl, hs⟩) | (first | ((with_reducible apply stor hs.b0); exact rfl; exact rfl; exact rfl; exact rfl; exact HL.out; exact rws6 _; exact row41; exact rfl; exact rfl; exact rfl; clear hs; intro w hs; rw [HS.out] at hs) | ((with_reducible apply stor hs.b1); exact rfl; exact rfl; exact rfl; exact rfl; exact HL.out; exact rws6 _; exact row41; exact rfl; exact rfl; exact rfl; clear hs; intro w hs; rw [HS.out] at hs) | ((with_reducible apply stor hs.b2); exact rfl; exact rfl; exact rfl; exact rfl; exact HL.out; exact rws6 _; exact row41; exact rfl; exact rfl; exact rfl; clear hs; intro w hs; rw [HS.out] at hs) | ((with_reducible apply stor hs.b3); exact rfl; exact rfl; exact rfl; exact rfl; exact HL.out; exact rws6 _; exact row41; exact rfl; exact rfl; exact rfl; clear hs; intro w hs; rw [HS.out] at hs)) | ((with_reducible refine isl ?_); first | ((with_reducible apply ld hs.b0); exact rfl; exact rfl; exact rfl; exact rfl; kernel_rfl) | ((with_reducible apply st hs.b0); exact rfl; exact rfl; exact rfl; exact rfl; exact rfl; exact rfl; kernel_rfl; exact rfl; clear hs; intro w hs) | ((with_reducible apply stc hs.b0); exact rfl; exact rfl; exact rfl; exact rfl; exact rfl; kernel_rfl; exact rfl; clear hs; intro w hs) | ((with_reducible refine wrap hs ?_); clear hs; intro w hs) | ((with_reducible refine wrapn hs ?_); clear hs; intro w hs) | ((with_reducible refine wrapd hs ?_); clear hs; intro w hs)))
            (first | refine seg_on hs (fun _ h => h) ?_ ?_ | refine seg_on hs.made (fun _ h => h) ?_ ?_ | refine seg_on hs.drew (fun _ h => h) ?_ ?_ | refine seg_on hs.drew.made (fun _ h => h) ?_ ?_ | refine seg_on (hs.drewN _) (fun _ h => h) ?_ ?_)
            · exact fun _ h => by (show sat W [cel b 55 [.slice (some ⟨g, 0, none⟩) n p9], cel z4 33 (aC at_)] _; refine sb_from ?_ h; repeat constructor)
            clear hs; intro hs
            refine seg_reads (fun _ h => by (show sat W [cel b 55 [.slice (some ⟨g, 0, none⟩) n p9], cel z4 33 (aC at_)] _; refine sb_from ?_ h; repeat constructor)) ?_; intro X f hne hf hcl; (try simp only [Act.put, List.setIfInBounds_toArray, List.set_cons_succ, List.set_cons_zero]); (repeat ((first | ((with_reducible apply ldsq 3 (fun x => (hf x).b0)); exact rfl; exact rfl; exact rfl; exact row33; exact rfl; exact rfl) | ((with_reducible apply ldsq 3 (fun x => (hf x).b1)); exact rfl; exact rfl; exact rfl; exact row33; exact rfl; exact rfl) | ((with_reducible apply ldq (fun x => (hf x).b0)); exact rfl; exact rfl; exact rfl; exact rfl; kernel_rfl) | ((with_reducible apply ldq (fun x => (hf x).b1)); exact rfl; exact rfl; exact rfl; exact rfl; kernel_rfl) | ((with_reducible apply ldq (fun x => (hf x).b2)); exact rfl; exact rfl; exact rfl; exact rfl; kernel_rfl) | go_big_quiet_step (fail)); (try simp only [Act.put, List.setIfInBounds_toArray, List.set_cons_succ, List.set_cons_zero]))); refine wpQuiet_nil ?_; clear hcl hf hne hs f X; intro w hs
            go_wp2_with (first | (go_at_call 43; refine (ground43 (a := at_) hs).mono ?_; clear hs; rintro e w ⟨rfl, hs⟩) | (go_at_call 30; refine (blank30 (a := grC at_) hs).mono ?_; clear hs; rintro e w ⟨rfl, hs⟩) | (first | ((with_reducible apply stor hs.b0); exact rfl; exact rfl; exact rfl; exact rfl; exact HL.out; exact rws6 _; exact row41; exact rfl; exact rfl; exact rfl; clear hs; intro w hs; rw [HS.out] at hs) | ((with_reducible apply stor hs.b1); exact rfl; exact rfl; exact rfl; exact rfl; exact HL.out; exact rws6 _; exact row41; exact rfl; exact rfl; exact rfl; clear hs; intro w hs; rw [HS.out] at hs) | ((with_reducible apply stor hs.b2); exact rfl; exact rfl; exact rfl; exact rfl; exact HL.out; exact rws6 _; exact row41; exact rfl; exact rfl; exact rfl; clear hs; intro w hs; rw [HS.out] at hs) | ((with_reducible apply stor hs.b3); exact rfl; exact rfl; exact rfl; exact rfl; exact HL.out; exact rws6 _; exact row41; exact rfl; exact rfl; exact rfl; clear hs; intro w hs; rw [HS.out] at hs)) | ((with_reducible refine isl ?_); first | ((with_reducible apply ld hs.b0); exact rfl; exact rfl; exact rfl; exact rfl; kernel_rfl) | ((with_reducible apply st hs.b0); exact rfl; exact rfl; exact rfl; exact rfl; exact rfl; exact rfl; kernel_rfl; exact rfl; clear hs; intro w hs) | ((with_reducible apply stc hs.b0); exact rfl; exact rfl; exact rfl; exact rfl; exact rfl; kernel_rfl; exact rfl; clear hs; intro w hs) | ((with_reducible refine wrap hs ?_); clear hs; intro w hs) | ((with_reducible refine wrapn hs ?_); clear hs; intro w hs) | ((with_reducible refine wrapd hs ?_); clear hs; intro w hs)))
            (first | refine seg_on hs (fun _ h => h) ?_ ?_ | refine seg_on hs.made (fun _ h => h) ?_ ?_ | refine seg_on hs.drew (fun _ h => h) ?_ ?_ | refine seg_on hs.drew.made (fun _ h => h) ?_ ?_ | refine seg_on (hs.drewN _) (fun _ h => h) ?_ ?_)
            · exact fun _ h => by (show sat W [cel b 55 [.slice (some ⟨g, 0, none⟩) n p9], cel z4 33 (aC at_)] _; refine sb_from ?_ h; repeat constructor)
            clear hs; intro hs
            refine seg_last (fun _ h => by (show sat W [cel b 55 [.slice (some ⟨g, 0, none⟩) n p9], cel z4 33 (aC at_)] _; refine sb_from ?_ h; repeat constructor)) ?_; intro X f hne hf hcl; (try simp only [Act.put, List.setIfInBounds_toArray, List.set_cons_succ, List.set_cons_zero]); (repeat ((first | ((with_reducible apply ldsq 3 (fun x => (hf x).b0)); exact rfl; exact rfl; exact rfl; exact row33; exact rfl; exact rfl) | ((with_reducible apply ldsq 3 (fun x => (hf x).b1)); exact rfl; exact rfl; exact rfl; exact row33; exact rfl; exact rfl) | ((with_reducible apply ldq (fun x => (hf x).b0)); exact rfl; exact rfl; exact rfl; exact rfl; kernel_rfl) | ((with_reducible apply ldq (fun x => (hf x).b1)); exact rfl; exact rfl; exact rfl; exact rfl; kernel_rfl) | ((with_reducible apply ldq (fun x => (hf x).b2)); exact rfl; exact rfl; exact rfl; exact rfl; kernel_rfl) | go_big_quiet_step (fail)); (try simp only [Act.put, List.setIfInBounds_toArray, List.set_cons_succ, List.set_cons_zero]))); refine wpQuiet_nil ?_; clear hcl hf hne hs f X; intro w hs
            go_wp2_with fail
            go_roundw
            case rel => exact ⟨j + 1, _, by omega, by have := HI9.out; go_num, HI2, by refine sb_from ?_ hs; repeat constructor⟩
            case measure => simp [intOf]; omega
          · have hge : ¬ (i9 : Int) < (n : Int) := by have := HQ2.out; omega
            have hjm2 : j = m0 := by omega
            have hq := HI.out
            rw [hjm2] at hq
            have hq2 := hq.fin
            rw [hq2] at hs
            have h5 : sat W (cmb (ps.take c0 ++ ps.drop (c0 + m0) ++ List.replicate m0 (PC.bl (grC at_))) :: cel b 55 [.slice (some ⟨g, 0, none⟩) n p9] :: own 41 6 (.slice (some ⟨g, 0, none⟩) n p9) n (rws (ps.take c0 ++ ps.drop (c0 + m0) ++ List.replicate m0 (PC.bl (grC at_)))).flatten :: cel z4 33 (aC at_) :: H) wr := by
              have h6 : sat W (cmb (ps.take c0 ++ ps.drop c0) :: cel b 55 [.slice (some ⟨g, 0, none⟩) n p9] :: own 41 6 (.slice (some ⟨g, 0, none⟩) n p9) n (rws (ps.take c0 ++ ps.drop (c0 + m0) ++ List.replicate m0 (PC.bl (grC at_)))).flatten :: cel z4 33 (aC at_) :: H) wr := by
                rw [List.take_append_drop]
                refine sb_from ?_ hs; repeat constructor
              have h7 := cmb_drop m0 (cmb_split h6).b1
              rw [List.drop_drop] at h7
              have h8 := cmb_app h7.b1
              have h9 := cmb_bls (a := grC at_) m0 (cmb_nil h8)
              rw [List.append_nil] at h9
              exact cmb_app h9.b1
            have HLQ : Hid ((ps.take c0 ++ ps.drop (c0 + m0) ++ List.replicate m0 (PC.bl (grC at_))).length = n) := Lib.hid (by rw [← hq2, hq.len]; have := HQ2.out; omega)
            have h9 := rw_close (ps := ps.take c0 ++ ps.drop (c0 + m0) ++ List.replicate m0 (PC.bl (grC at_))) (T := 55) (b := b) (n := n) (a := some ⟨g, 0, none⟩) (p := p9) HLQ.out (by refine sb_from ?_ h5; repeat constructor)
            have HZ2 : Hid (delG l k m at_ = (ps.take c0 ++ ps.drop (c0 + m0) ++ List.replicate m0 (PC.bl (grC at_))).map (·.c)) := Lib.hid (by
              rw [HZ.out, ← HP.out.2]
              simp only [List.map_append, List.map_take, List.map_drop, List.map_replicate]
              rfl)
            clear h5 hq hq2 hjm hjm2 hi9
            go_wp2_with (first | ((with_reducible refine isl ?_); first | ((with_reducible apply ld hs.b0); exact rfl; exact rfl; exact rfl; exact rfl; kernel_rfl) | ((with_reducible apply st hs.b0); exact rfl; exact rfl; exact rfl; exact rfl; exact rfl; exact rfl; kernel_rfl; exact rfl; clear hs; intro w hs) | ((with_reducible apply stc hs.b0); exact rfl; exact rfl; exact rfl; exact rfl; exact rfl; kernel_rfl; exact rfl; clear hs; intro w hs) | ((with_reducible refine wrap hs ?_); clear hs; intro w hs) | ((with_reducible refine wrapn hs ?_); clear hs; intro w hs) | ((with_reducible refine wrapd hs ?_); clear hs; intro w hs)))
            go_ret
            exact ⟨rfl, by rw [HZ2.out]; refine sb_from ?_ h9; repeat constructor⟩
end Go.Proofs.Yteoeeiinngpogaa
