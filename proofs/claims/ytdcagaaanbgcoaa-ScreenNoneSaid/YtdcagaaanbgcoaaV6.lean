/- Law 6: Put. -/
import Derived.Test.YtdcagaaanbgcoaaV5
namespace Go.Proofs.Ytdcagaaanbgcoaa
open Go.RowKit Go.Mem Go.Cells
variable {W w : World} {H : List HProp}
/-- A cell without marks is put in another's place. -/
theorem cmb_setn {l : List PC} {i : Nat} {c : C} (hc : c.comb = []) (hs : sat W (cmb l :: H) w) : sat W (cmb (l.set i ⟨c, none, 0⟩) :: H) w := by
  obtain ⟨r, cb, wd, at_⟩ := c
  simp only at hc
  subst hc
  by_cases h : i < l.length
  · have h1 := cmb_at (x := l[i]) (List.getElem?_eq_getElem h) hs
    have h2 : sat W (cmb1 ⟨⟨r, [], wd, at_⟩, none, 0⟩ :: cmb (l.take i) :: cmb (l.drop (i + 1)) :: H) w := by
      unfold cmb1
      exact h1.drop.own_nil 21 1
    exact cmb_put h h2
  · rw [List.set_eq_of_length_le (by omega)]
    exact hs
def putG (l : List C) (k : Int) (x : Int) (wide : Bool) (a : At) : List C × Int :=
  let sz : Int := if wide then 2 else 1
  if ¬ mayC x ∨ k < 0 ∨ (l.length : Int) - sz < k then (l, 2)
  else
    let l2 := partC (partC l k) (k + sz)
    if wide then ((l2.set k.toNat ⟨x, [], 1, a⟩).set (k.toNat + 1) ⟨0, [], 2, a⟩, 0) else (l2.set k.toNat ⟨x, [], 0, a⟩, 0)
attribute [local irreducible] rowTy oneTy World.setCell World.setCells World.alloc World.drew World.drewN Calls sat cel own blk old wpQuiet wpList cmb cmb1 rwP cls rws partC
theorem put22_no {b n : Nat} {l : List C} {k x : Int} {wide : Bool} {at_ : At} (hn : l.length = n) (h0 : 0 < n) (h512 : n ≤ 1000) (h : ¬ mayC x ∨ k < 0 ∨ (n : Int) - (if wide then 2 else 1) < k) (hs : sat W (rwP 96 b l :: H) w) :
    Calls Try.prog 56 #[.pointer (some ⟨b, 0, none⟩), .int .i64 k, .int .i32 x, .bool wide, aV at_] w fun e w' => e = .returned (.int .i64 2) ∧ sat W (rwP 96 b l :: H) w' := by
  have HN0 := Lib.hid hn
  clear hn
  by_cases hm : mayC x
  · have HMY : Hid (decide (mayC x) = true) := Lib.hid (decide_eq_true hm)
    by_cases h1 : k < 0
    · clear h hm
      cases wide with
      | false =>
        go_enter Try.func56, Try.ntmps56
        go_wp2_with (first | (go_at_call 58; refine (ready40 HN0.out h0 (by apply sk_from (hs := hs); repeat constructor)).mono ?_; clear hs; rintro e w ⟨rfl, hs⟩) | (go_at_call 74; refine (mayPut48 hs).mono ?_; clear hs; rintro e w ⟨rfl, hs⟩; rw [HMY.out]) | ((with_reducible refine isl ?_); first | ((with_reducible apply ld hs.b0); exact rfl; exact rfl; exact rfl; exact rfl; kernel_rfl) | ((with_reducible apply ld hs.b1); exact rfl; exact rfl; exact rfl; exact rfl; kernel_rfl) | ((with_reducible apply st hs.b0); exact rfl; exact rfl; exact rfl; exact rfl; exact rfl; exact rfl; kernel_rfl; exact rfl; clear hs; intro w hs) | ((with_reducible apply st hs.b1); exact rfl; exact rfl; exact rfl; exact rfl; exact rfl; exact rfl; kernel_rfl; exact rfl; clear hs; intro w hs) | ((with_reducible apply stc hs.b0); exact rfl; exact rfl; exact rfl; exact rfl; exact rfl; kernel_rfl; exact rfl; clear hs; intro w hs) | ((with_reducible apply stc hs.b1); exact rfl; exact rfl; exact rfl; exact rfl; exact rfl; kernel_rfl; exact rfl; clear hs; intro w hs) | ((with_reducible refine wrap hs ?_); clear hs; (first | generalize w.heap.size = z4); intro w hs) | ((with_reducible refine wrap hs ?_); clear hs; intro w hs) | ((with_reducible refine wrapn hs ?_); clear hs; intro w hs) | ((with_reducible refine wrapd hs ?_); clear hs; intro w hs)))
        go_ret
        exact ⟨rfl, by refine sb_from ?_ hs; repeat constructor⟩
      | true =>
        go_enter Try.func56, Try.ntmps56
        go_wp2_with (first | (go_at_call 58; refine (ready40 HN0.out h0 (by apply sk_from (hs := hs); repeat constructor)).mono ?_; clear hs; rintro e w ⟨rfl, hs⟩) | (go_at_call 74; refine (mayPut48 hs).mono ?_; clear hs; rintro e w ⟨rfl, hs⟩; rw [HMY.out]) | ((with_reducible refine isl ?_); first | ((with_reducible apply ld hs.b0); exact rfl; exact rfl; exact rfl; exact rfl; kernel_rfl) | ((with_reducible apply ld hs.b1); exact rfl; exact rfl; exact rfl; exact rfl; kernel_rfl) | ((with_reducible apply st hs.b0); exact rfl; exact rfl; exact rfl; exact rfl; exact rfl; exact rfl; kernel_rfl; exact rfl; clear hs; intro w hs) | ((with_reducible apply st hs.b1); exact rfl; exact rfl; exact rfl; exact rfl; exact rfl; exact rfl; kernel_rfl; exact rfl; clear hs; intro w hs) | ((with_reducible apply stc hs.b0); exact rfl; exact rfl; exact rfl; exact rfl; exact rfl; kernel_rfl; exact rfl; clear hs; intro w hs) | ((with_reducible apply stc hs.b1); exact rfl; exact rfl; exact rfl; exact rfl; exact rfl; kernel_rfl; exact rfl; clear hs; intro w hs) | ((with_reducible refine wrap hs ?_); clear hs; (first | generalize w.heap.size = z4); intro w hs) | ((with_reducible refine wrap hs ?_); clear hs; intro w hs) | ((with_reducible refine wrapn hs ?_); clear hs; intro w hs) | ((with_reducible refine wrapd hs ?_); clear hs; intro w hs)))
        go_ret
        exact ⟨rfl, by refine sb_from ?_ hs; repeat constructor⟩
    · have g1 : decide (k < 0) = false := decide_eq_false h1
      cases wide with
      | false =>
        have h2 : (n : Int) - 1 < k := by rcases h with h | h | h; exact absurd hm h; exact absurd h h1; exact h
        clear h hm
        go_enter Try.func56, Try.ntmps56
        go_wp2_with (first | (go_at_call 58; refine (ready40 HN0.out h0 (by apply sk_from (hs := hs); repeat constructor)).mono ?_; clear hs; rintro e w ⟨rfl, hs⟩) | (go_at_call 74; refine (mayPut48 hs).mono ?_; clear hs; rintro e w ⟨rfl, hs⟩; rw [HMY.out]; obtain ⟨ps, a9, p9, hps, hs⟩ := rw_open HN0.out hs; have HP : Hid (ps.length = n ∧ ps.map (·.c) = l) := Lib.hid ⟨by rw [← HN0.out, ← hps, List.length_map], hps⟩; clear hps) | ((with_reducible refine isl ?_); first | ((with_reducible apply ld hs.b0); exact rfl; exact rfl; exact rfl; exact rfl; kernel_rfl) | ((with_reducible apply ld hs.b1); exact rfl; exact rfl; exact rfl; exact rfl; kernel_rfl) | ((with_reducible apply ld hs.b2); exact rfl; exact rfl; exact rfl; exact rfl; kernel_rfl) | ((with_reducible apply st hs.b0); exact rfl; exact rfl; exact rfl; exact rfl; exact rfl; exact rfl; kernel_rfl; exact rfl; clear hs; intro w hs) | ((with_reducible apply st hs.b1); exact rfl; exact rfl; exact rfl; exact rfl; exact rfl; exact rfl; kernel_rfl; exact rfl; clear hs; intro w hs) | ((with_reducible apply st hs.b2); exact rfl; exact rfl; exact rfl; exact rfl; exact rfl; exact rfl; kernel_rfl; exact rfl; clear hs; intro w hs) | ((with_reducible apply stc hs.b0); exact rfl; exact rfl; exact rfl; exact rfl; exact rfl; kernel_rfl; exact rfl; clear hs; intro w hs) | ((with_reducible apply stc hs.b1); exact rfl; exact rfl; exact rfl; exact rfl; exact rfl; kernel_rfl; exact rfl; clear hs; intro w hs) | ((with_reducible apply stc hs.b2); exact rfl; exact rfl; exact rfl; exact rfl; exact rfl; kernel_rfl; exact rfl; clear hs; intro w hs) | ((with_reducible refine wrap hs ?_); clear hs; (first | generalize w.heap.size = z4); intro w hs) | ((with_reducible refine wrap hs ?_); clear hs; intro w hs) | ((with_reducible refine wrapn hs ?_); clear hs; intro w hs) | ((with_reducible refine wrapd hs ?_); clear hs; intro w hs)))
        go_ret
        exact ⟨rfl, by have hs := (show sat W (rwP 96 b l :: cel z4 25 (aC at_) :: H) w from by have h6 := rw_close HP.out.1 (by refine sb_from ?_ hs; repeat constructor : sat W (cel b 96 [.slice a9 n p9] :: own 110 6 (.slice a9 n p9) n (rws ps).flatten :: cmb ps :: cel z4 25 (aC at_) :: H) w); rw [HP.out.2] at h6; exact h6); refine sb_from ?_ hs; repeat constructor⟩
      | true =>
        have h2 : (n : Int) - 2 < k := by rcases h with h | h | h; exact absurd hm h; exact absurd h h1; exact h
        clear h hm
        go_enter Try.func56, Try.ntmps56
        go_wp2_with (first | (go_at_call 58; refine (ready40 HN0.out h0 (by apply sk_from (hs := hs); repeat constructor)).mono ?_; clear hs; rintro e w ⟨rfl, hs⟩) | (go_at_call 74; refine (mayPut48 hs).mono ?_; clear hs; rintro e w ⟨rfl, hs⟩; rw [HMY.out]; obtain ⟨ps, a9, p9, hps, hs⟩ := rw_open HN0.out hs; have HP : Hid (ps.length = n ∧ ps.map (·.c) = l) := Lib.hid ⟨by rw [← HN0.out, ← hps, List.length_map], hps⟩; clear hps) | ((with_reducible refine isl ?_); first | ((with_reducible apply ld hs.b0); exact rfl; exact rfl; exact rfl; exact rfl; kernel_rfl) | ((with_reducible apply ld hs.b1); exact rfl; exact rfl; exact rfl; exact rfl; kernel_rfl) | ((with_reducible apply ld hs.b2); exact rfl; exact rfl; exact rfl; exact rfl; kernel_rfl) | ((with_reducible apply st hs.b0); exact rfl; exact rfl; exact rfl; exact rfl; exact rfl; exact rfl; kernel_rfl; exact rfl; clear hs; intro w hs) | ((with_reducible apply st hs.b1); exact rfl; exact rfl; exact rfl; exact rfl; exact rfl; exact rfl; kernel_rfl; exact rfl; clear hs; intro w hs) | ((with_reducible apply st hs.b2); exact rfl; exact rfl; exact rfl; exact rfl; exact rfl; exact rfl; kernel_rfl; exact rfl; clear hs; intro w hs) | ((with_reducible apply stc hs.b0); exact rfl; exact rfl; exact rfl; exact rfl; exact rfl; kernel_rfl; exact rfl; clear hs; intro w hs) | ((with_reducible apply stc hs.b1); exact rfl; exact rfl; exact rfl; exact rfl; exact rfl; kernel_rfl; exact rfl; clear hs; intro w hs) | ((with_reducible apply stc hs.b2); exact rfl; exact rfl; exact rfl; exact rfl; exact rfl; kernel_rfl; exact rfl; clear hs; intro w hs) | ((with_reducible refine wrap hs ?_); clear hs; (first | generalize w.heap.size = z4); intro w hs) | ((with_reducible refine wrap hs ?_); clear hs; intro w hs) | ((with_reducible refine wrapn hs ?_); clear hs; intro w hs) | ((with_reducible refine wrapd hs ?_); clear hs; intro w hs)))
        go_ret
        exact ⟨rfl, by have hs := (show sat W (rwP 96 b l :: cel z4 25 (aC at_) :: H) w from by have h6 := rw_close HP.out.1 (by refine sb_from ?_ hs; repeat constructor : sat W (cel b 96 [.slice a9 n p9] :: own 110 6 (.slice a9 n p9) n (rws ps).flatten :: cmb ps :: cel z4 25 (aC at_) :: H) w); rw [HP.out.2] at h6; exact h6); refine sb_from ?_ hs; repeat constructor⟩
  · have HMY : Hid (decide (mayC x) = false) := Lib.hid (decide_eq_false hm)
    clear h hm
    cases wide with
    | false =>
      go_enter Try.func56, Try.ntmps56
      go_wp2_with (first | (go_at_call 58; refine (ready40 HN0.out h0 (by apply sk_from (hs := hs); repeat constructor)).mono ?_; clear hs; rintro e w ⟨rfl, hs⟩) | (go_at_call 74; refine (mayPut48 hs).mono ?_; clear hs; rintro e w ⟨rfl, hs⟩; rw [HMY.out]) | ((with_reducible refine isl ?_); first | ((with_reducible apply ld hs.b0); exact rfl; exact rfl; exact rfl; exact rfl; kernel_rfl) | ((with_reducible apply ld hs.b1); exact rfl; exact rfl; exact rfl; exact rfl; kernel_rfl) | ((with_reducible apply st hs.b0); exact rfl; exact rfl; exact rfl; exact rfl; exact rfl; exact rfl; kernel_rfl; exact rfl; clear hs; intro w hs) | ((with_reducible apply st hs.b1); exact rfl; exact rfl; exact rfl; exact rfl; exact rfl; exact rfl; kernel_rfl; exact rfl; clear hs; intro w hs) | ((with_reducible apply stc hs.b0); exact rfl; exact rfl; exact rfl; exact rfl; exact rfl; kernel_rfl; exact rfl; clear hs; intro w hs) | ((with_reducible apply stc hs.b1); exact rfl; exact rfl; exact rfl; exact rfl; exact rfl; kernel_rfl; exact rfl; clear hs; intro w hs) | ((with_reducible refine wrap hs ?_); clear hs; (first | generalize w.heap.size = z4); intro w hs) | ((with_reducible refine wrap hs ?_); clear hs; intro w hs) | ((with_reducible refine wrapn hs ?_); clear hs; intro w hs) | ((with_reducible refine wrapd hs ?_); clear hs; intro w hs)))
      go_ret
      exact ⟨rfl, by refine sb_from ?_ hs; repeat constructor⟩
    | true =>
      go_enter Try.func56, Try.ntmps56
      go_wp2_with (first | (go_at_call 58; refine (ready40 HN0.out h0 (by apply sk_from (hs := hs); repeat constructor)).mono ?_; clear hs; rintro e w ⟨rfl, hs⟩) | (go_at_call 74; refine (mayPut48 hs).mono ?_; clear hs; rintro e w ⟨rfl, hs⟩; rw [HMY.out]) | ((with_reducible refine isl ?_); first | ((with_reducible apply ld hs.b0); exact rfl; exact rfl; exact rfl; exact rfl; kernel_rfl) | ((with_reducible apply ld hs.b1); exact rfl; exact rfl; exact rfl; exact rfl; kernel_rfl) | ((with_reducible apply st hs.b0); exact rfl; exact rfl; exact rfl; exact rfl; exact rfl; exact rfl; kernel_rfl; exact rfl; clear hs; intro w hs) | ((with_reducible apply st hs.b1); exact rfl; exact rfl; exact rfl; exact rfl; exact rfl; exact rfl; kernel_rfl; exact rfl; clear hs; intro w hs) | ((with_reducible apply stc hs.b0); exact rfl; exact rfl; exact rfl; exact rfl; exact rfl; kernel_rfl; exact rfl; clear hs; intro w hs) | ((with_reducible apply stc hs.b1); exact rfl; exact rfl; exact rfl; exact rfl; exact rfl; kernel_rfl; exact rfl; clear hs; intro w hs) | ((with_reducible refine wrap hs ?_); clear hs; (first | generalize w.heap.size = z4); intro w hs) | ((with_reducible refine wrap hs ?_); clear hs; intro w hs) | ((with_reducible refine wrapn hs ?_); clear hs; intro w hs) | ((with_reducible refine wrapd hs ?_); clear hs; intro w hs)))
      go_ret
      exact ⟨rfl, by refine sb_from ?_ hs; repeat constructor⟩
theorem put22_false {b n c0 : Nat} {l : List C} {x : Int} {at_ : At} (hn : l.length = n) (h512 : n ≤ 1000) (hm : mayC x) (hk : c0 + 1 ≤ n) (hs : sat W (rwP 96 b l :: H) w) :
    Calls Try.prog 56 #[.pointer (some ⟨b, 0, none⟩), .int .i64 (c0 : Int), .int .i32 x, .bool false, aV at_] w fun e w' => e = .returned (.int .i64 0) ∧ sat W (rwP 96 b (putG l c0 x false at_).1 :: H) w' := by
  have h0 : 0 < n := by omega
  have HMY : Hid (decide (mayC x) = true) := Lib.hid (decide_eq_true hm)
  have HN0 := Lib.hid hn
  obtain ⟨l1, hl1⟩ : ∃ l1, partC l (c0 : Int) = l1 := ⟨_, rfl⟩
  obtain ⟨l2, hl2⟩ : ∃ l2, partC l1 ((c0 : Int) + 1) = l2 := ⟨_, rfl⟩
  have HN1 : Hid (l1.length = n) := Lib.hid (by rw [← hl1, partC_length, hn])
  have HN2 : Hid (l2.length = n) := Lib.hid (by rw [← hl2, partC_length, HN1.out])
  have HL1 := Lib.hid hl1
  have HL2 := Lib.hid hl2
  have HG : Hid ((putG l c0 x false at_).1 = l2.set c0 ⟨x, [], 0, at_⟩) := Lib.hid (by
    unfold putG
    rw [hl1]
    simp only [Bool.false_eq_true, if_false]
    rw [hl2, if_neg (by rintro (h | h | h); exact h hm; omega; omega), Int.toNat_natCast])
  have g1 : decide ((c0 : Int) < 0) = false := decide_eq_false (by omega)
  have g2 : ¬ (n : Int) - 1 < (c0 : Int) := by omega
  have g3 : (c0 : Int) < (n : Int) := by omega
  have g4 : (c0 : Int) + 1 < (n : Int) ∨ 1 = 1 := by omega
  skip
  skip
  clear hm hn hl1 hl2 g4
  go_enter Try.func56, Try.ntmps56
  go_upto_region 10 with (first | (go_at_call 58; refine (ready40 HN0.out h0 (by apply sk_from (hs := hs); repeat constructor)).mono ?_; clear hs; rintro e w ⟨rfl, hs⟩) | (go_at_call 74; refine (mayPut48 hs).mono ?_; clear hs; rintro e w ⟨rfl, hs⟩; rw [HMY.out]; obtain ⟨ps, a9, p9, hps, hs⟩ := rw_open HN0.out hs; have HP : Hid (ps.length = n ∧ ps.map (·.c) = l) := Lib.hid ⟨by rw [← HN0.out, ← hps, List.length_map], hps⟩; clear hps) | (go_at_call 75; have hs := (show sat W (rwP 96 b l :: cel z4 25 (aC at_) :: H) w from by have h6 := rw_close HP.out.1 (by refine sb_from ?_ hs; repeat constructor : sat W (cel b 96 [.slice a9 n p9] :: own 110 6 (.slice a9 n p9) n (rws ps).flatten :: cmb ps :: cel z4 25 (aC at_) :: H) w); rw [HP.out.2] at h6; exact h6); refine (part42 HN0.out h512 hs).mono ?_; clear hs; rintro e w ⟨rfl, hs⟩; rw [HL1.out] at hs) | (go_at_call 75; refine (part42 HN1.out h512 hs).mono ?_; clear hs; rintro e w ⟨rfl, hs⟩; rw [HL2.out] at hs) | ((with_reducible refine isl ?_); first | ((with_reducible apply ld hs.b0); exact rfl; exact rfl; exact rfl; exact rfl; kernel_rfl) | ((with_reducible apply ld hs.b1); exact rfl; exact rfl; exact rfl; exact rfl; kernel_rfl) | ((with_reducible apply ld hs.b2); exact rfl; exact rfl; exact rfl; exact rfl; kernel_rfl) | ((with_reducible apply st hs.b0); exact rfl; exact rfl; exact rfl; exact rfl; exact rfl; exact rfl; kernel_rfl; exact rfl; clear hs; intro w hs) | ((with_reducible apply st hs.b1); exact rfl; exact rfl; exact rfl; exact rfl; exact rfl; exact rfl; kernel_rfl; exact rfl; clear hs; intro w hs) | ((with_reducible apply st hs.b2); exact rfl; exact rfl; exact rfl; exact rfl; exact rfl; exact rfl; kernel_rfl; exact rfl; clear hs; intro w hs) | ((with_reducible apply stc hs.b0); exact rfl; exact rfl; exact rfl; exact rfl; exact rfl; kernel_rfl; exact rfl; clear hs; intro w hs) | ((with_reducible apply stc hs.b1); exact rfl; exact rfl; exact rfl; exact rfl; exact rfl; kernel_rfl; exact rfl; clear hs; intro w hs) | ((with_reducible apply stc hs.b2); exact rfl; exact rfl; exact rfl; exact rfl; exact rfl; kernel_rfl; exact rfl; clear hs; intro w hs) | ((with_reducible refine wrap hs ?_); clear hs; (first | generalize w.heap.size = z4); intro w hs) | ((with_reducible refine wrap hs ?_); clear hs; intro w hs) | ((with_reducible refine wrapn hs ?_); clear hs; intro w hs) | ((with_reducible refine wrapd hs ?_); clear hs; intro w hs)))
  obtain ⟨ps, a9, p9, hps, hs⟩ := rw_open HN2.out hs
  have hpn : ps.length = n := by rw [← HN2.out, ← hps, List.length_map]
  obtain ⟨g, rfl⟩ := own_ptr h0 hs.b1
  have HP := Lib.hid (And.intro hpn hps)
  have HK : Hid (c0 < (rws ps).length) := Lib.hid (by rw [rws_len, hpn]; omega)
  have HS1 : Hid ((rws ps).set c0 (cV ⟨x, [], 0, at_⟩ (.slice none 0 0)) = rws (ps.set c0 ⟨⟨x, [], 0, at_⟩, none, 0⟩)) := Lib.hid (rws_set ps c0 ⟨⟨x, [], 0, at_⟩, none, 0⟩)
  clear hpn hps
  refine region_mix [([0, 1, 2, 3, 4, 5, 6, 7, 8], [9])] [] hs (fun _ h => by (show sat W [cel b 96 [.slice (some ⟨g, 0, none⟩) n p9], cel z4 25 (aC at_)] _; refine sb_from ?_ h; repeat constructor)) (by kernel_rfl) (by kernel_rfl) (fun _ _ _ _ _ h => h) ?_
  simp only [segs, nths, nth, List.append_nil, List.nil_append, List.cons_append, List.map_cons, List.map_nil]
  refine seg_reads (fun _ h => by (show sat W [cel b 96 [.slice (some ⟨g, 0, none⟩) n p9], cel z4 25 (aC at_)] _; refine sb_from ?_ h; repeat constructor)) ?_; intro X f hne hf hcl; (try simp only [Act.put, List.setIfInBounds_toArray, List.set_cons_succ, List.set_cons_zero]); (repeat ((first | ((with_reducible apply ldsq 3 (fun x => (hf x).b0)); exact rfl; exact rfl; exact rfl; exact row33; exact rfl; exact rfl) | ((with_reducible apply ldsq 3 (fun x => (hf x).b1)); exact rfl; exact rfl; exact rfl; exact row33; exact rfl; exact rfl) | ((with_reducible apply ldq (fun x => (hf x).b0)); exact rfl; exact rfl; exact rfl; exact rfl; kernel_rfl) | ((with_reducible apply ldq (fun x => (hf x).b1)); exact rfl; exact rfl; exact rfl; exact rfl; kernel_rfl) | ((with_reducible apply ldq (fun x => (hf x).b2)); exact rfl; exact rfl; exact rfl; exact rfl; kernel_rfl) | go_big_quiet_step (fail)); (try simp only [Act.put, List.setIfInBounds_toArray, List.set_cons_succ, List.set_cons_zero]))); refine wpQuiet_nil ?_; clear hcl hf hne hs f X; intro w hs
  go_wp2_with (first | (first | ((with_reducible apply stor hs.b0); exact rfl; exact rfl; exact rfl; exact rfl; exact HK.out; exact rws6 _; exact row41; exact rfl; exact rfl; exact rfl; clear hs; intro w hs; rw [HS1.out] at hs) | ((with_reducible apply stor hs.b1); exact rfl; exact rfl; exact rfl; exact rfl; exact HK.out; exact rws6 _; exact row41; exact rfl; exact rfl; exact rfl; clear hs; intro w hs; rw [HS1.out] at hs) | ((with_reducible apply stor hs.b2); exact rfl; exact rfl; exact rfl; exact rfl; exact HK.out; exact rws6 _; exact row41; exact rfl; exact rfl; exact rfl; clear hs; intro w hs; rw [HS1.out] at hs) | ((with_reducible apply stor hs.b3); exact rfl; exact rfl; exact rfl; exact rfl; exact HK.out; exact rws6 _; exact row41; exact rfl; exact rfl; exact rfl; clear hs; intro w hs; rw [HS1.out] at hs)) | ((with_reducible refine isl ?_); first | ((with_reducible apply ld hs.b0); exact rfl; exact rfl; exact rfl; exact rfl; kernel_rfl) | ((with_reducible apply st hs.b0); exact rfl; exact rfl; exact rfl; exact rfl; exact rfl; exact rfl; kernel_rfl; exact rfl; clear hs; intro w hs) | ((with_reducible apply stc hs.b0); exact rfl; exact rfl; exact rfl; exact rfl; exact rfl; kernel_rfl; exact rfl; clear hs; intro w hs) | ((with_reducible refine wrap hs ?_); clear hs; intro w hs) | ((with_reducible refine wrapn hs ?_); clear hs; intro w hs) | ((with_reducible refine wrapd hs ?_); clear hs; intro w hs)))
  (first | refine seg_on hs (fun _ h => h) ?_ ?_ | refine seg_on hs.made (fun _ h => h) ?_ ?_ | refine seg_on hs.drew (fun _ h => h) ?_ ?_ | refine seg_on hs.drew.made (fun _ h => h) ?_ ?_ | refine seg_on (hs.drewN _) (fun _ h => h) ?_ ?_)
  · exact fun _ h => by (show sat W [cel b 96 [.slice (some ⟨g, 0, none⟩) n p9], cel z4 25 (aC at_)] _; refine sb_from ?_ h; repeat constructor)
  clear hs; intro hs
  refine seg_last (fun _ h => by (show sat W [cel b 96 [.slice (some ⟨g, 0, none⟩) n p9], cel z4 25 (aC at_)] _; refine sb_from ?_ h; repeat constructor)) ?_; intro X f hne hf hcl; (try simp only [Act.put, List.setIfInBounds_toArray, List.set_cons_succ, List.set_cons_zero]); (repeat ((first | ((with_reducible apply ldsq 3 (fun x => (hf x).b0)); exact rfl; exact rfl; exact rfl; exact row33; exact rfl; exact rfl) | ((with_reducible apply ldsq 3 (fun x => (hf x).b1)); exact rfl; exact rfl; exact rfl; exact row33; exact rfl; exact rfl) | ((with_reducible apply ldq (fun x => (hf x).b0)); exact rfl; exact rfl; exact rfl; exact rfl; kernel_rfl) | ((with_reducible apply ldq (fun x => (hf x).b1)); exact rfl; exact rfl; exact rfl; exact rfl; kernel_rfl) | ((with_reducible apply ldq (fun x => (hf x).b2)); exact rfl; exact rfl; exact rfl; exact rfl; kernel_rfl) | go_big_quiet_step (fail)); (try simp only [Act.put, List.setIfInBounds_toArray, List.set_cons_succ, List.set_cons_zero]))); refine wpQuiet_nil ?_; clear hcl hf hne hs f X; intro w hs
  go_wp2_with fail
  go_ret
  refine ⟨rfl, ?_⟩
  rw [HG.out]
  have h6 : sat W (cmb ps :: cel b 96 [.slice (some ⟨g, 0, none⟩) n p9] :: own 110 6 (.slice (some ⟨g, 0, none⟩) n p9) n (rws (ps.set c0 ⟨⟨x, [], 0, at_⟩, none, 0⟩)).flatten :: H) w := by refine sb_from ?_ hs; repeat constructor
  have h7 := cmb_setn (i := c0) (c := ⟨x, [], 0, at_⟩) rfl h6
  have h8 := rw_close (ps := ps.set c0 ⟨⟨x, [], 0, at_⟩, none, 0⟩) (T := 96) (b := b) (n := n) (a := some ⟨g, 0, none⟩) (p := p9) (by simp only [List.length_set]; exact HP.out.1) (by refine sb_from ?_ h7; repeat constructor)
  simp only [List.map_set, HP.out.2] at h8
  exact h8
theorem put22_true {b n c0 : Nat} {l : List C} {x : Int} {at_ : At} (hn : l.length = n) (h512 : n ≤ 1000) (hm : mayC x) (hk : c0 + 2 ≤ n) (hs : sat W (rwP 96 b l :: H) w) :
    Calls Try.prog 56 #[.pointer (some ⟨b, 0, none⟩), .int .i64 (c0 : Int), .int .i32 x, .bool true, aV at_] w fun e w' => e = .returned (.int .i64 0) ∧ sat W (rwP 96 b (putG l c0 x true at_).1 :: H) w' := by
  have h0 : 0 < n := by omega
  have HMY : Hid (decide (mayC x) = true) := Lib.hid (decide_eq_true hm)
  have HN0 := Lib.hid hn
  obtain ⟨l1, hl1⟩ : ∃ l1, partC l (c0 : Int) = l1 := ⟨_, rfl⟩
  obtain ⟨l2, hl2⟩ : ∃ l2, partC l1 ((c0 : Int) + 2) = l2 := ⟨_, rfl⟩
  have HN1 : Hid (l1.length = n) := Lib.hid (by rw [← hl1, partC_length, hn])
  have HN2 : Hid (l2.length = n) := Lib.hid (by rw [← hl2, partC_length, HN1.out])
  have HL1 := Lib.hid hl1
  have HL2 := Lib.hid hl2
  have HG : Hid ((putG l c0 x true at_).1 = (l2.set c0 ⟨x, [], 1, at_⟩).set (c0 + 1) ⟨0, [], 2, at_⟩) := Lib.hid (by
    unfold putG
    rw [hl1]
    simp only [if_true]
    rw [hl2, if_neg (by rintro (h | h | h); exact h hm; omega; omega), Int.toNat_natCast])
  have g1 : decide ((c0 : Int) < 0) = false := decide_eq_false (by omega)
  have g2 : ¬ (n : Int) - 2 < (c0 : Int) := by omega
  have g3 : (c0 : Int) < (n : Int) := by omega
  have g4 : (c0 : Int) + 1 < (n : Int) ∨ 2 = 1 := by omega
  have g5 : (c0 : Int) + 1 < (n : Int) := by omega
  have g6 : (0 : Int) ≤ (c0 : Int) + 1 := by omega
  clear hm hn hl1 hl2 g4
  go_enter Try.func56, Try.ntmps56
  go_upto_region 10 with (first | (go_at_call 58; refine (ready40 HN0.out h0 (by apply sk_from (hs := hs); repeat constructor)).mono ?_; clear hs; rintro e w ⟨rfl, hs⟩) | (go_at_call 74; refine (mayPut48 hs).mono ?_; clear hs; rintro e w ⟨rfl, hs⟩; rw [HMY.out]; obtain ⟨ps, a9, p9, hps, hs⟩ := rw_open HN0.out hs; have HP : Hid (ps.length = n ∧ ps.map (·.c) = l) := Lib.hid ⟨by rw [← HN0.out, ← hps, List.length_map], hps⟩; clear hps) | (go_at_call 75; have hs := (show sat W (rwP 96 b l :: cel z4 25 (aC at_) :: H) w from by have h6 := rw_close HP.out.1 (by refine sb_from ?_ hs; repeat constructor : sat W (cel b 96 [.slice a9 n p9] :: own 110 6 (.slice a9 n p9) n (rws ps).flatten :: cmb ps :: cel z4 25 (aC at_) :: H) w); rw [HP.out.2] at h6; exact h6); refine (part42 HN0.out h512 hs).mono ?_; clear hs; rintro e w ⟨rfl, hs⟩; rw [HL1.out] at hs) | (go_at_call 75; refine (part42 HN1.out h512 hs).mono ?_; clear hs; rintro e w ⟨rfl, hs⟩; rw [HL2.out] at hs) | ((with_reducible refine isl ?_); first | ((with_reducible apply ld hs.b0); exact rfl; exact rfl; exact rfl; exact rfl; kernel_rfl) | ((with_reducible apply ld hs.b1); exact rfl; exact rfl; exact rfl; exact rfl; kernel_rfl) | ((with_reducible apply ld hs.b2); exact rfl; exact rfl; exact rfl; exact rfl; kernel_rfl) | ((with_reducible apply st hs.b0); exact rfl; exact rfl; exact rfl; exact rfl; exact rfl; exact rfl; kernel_rfl; exact rfl; clear hs; intro w hs) | ((with_reducible apply st hs.b1); exact rfl; exact rfl; exact rfl; exact rfl; exact rfl; exact rfl; kernel_rfl; exact rfl; clear hs; intro w hs) | ((with_reducible apply st hs.b2); exact rfl; exact rfl; exact rfl; exact rfl; exact rfl; exact rfl; kernel_rfl; exact rfl; clear hs; intro w hs) | ((with_reducible apply stc hs.b0); exact rfl; exact rfl; exact rfl; exact rfl; exact rfl; kernel_rfl; exact rfl; clear hs; intro w hs) | ((with_reducible apply stc hs.b1); exact rfl; exact rfl; exact rfl; exact rfl; exact rfl; kernel_rfl; exact rfl; clear hs; intro w hs) | ((with_reducible apply stc hs.b2); exact rfl; exact rfl; exact rfl; exact rfl; exact rfl; kernel_rfl; exact rfl; clear hs; intro w hs) | ((with_reducible refine wrap hs ?_); clear hs; (first | generalize w.heap.size = z4); intro w hs) | ((with_reducible refine wrap hs ?_); clear hs; intro w hs) | ((with_reducible refine wrapn hs ?_); clear hs; intro w hs) | ((with_reducible refine wrapd hs ?_); clear hs; intro w hs)))
  obtain ⟨ps, a9, p9, hps, hs⟩ := rw_open HN2.out hs
  have hpn : ps.length = n := by rw [← HN2.out, ← hps, List.length_map]
  obtain ⟨g, rfl⟩ := own_ptr h0 hs.b1
  have HP := Lib.hid (And.intro hpn hps)
  have HK : Hid (c0 < (rws ps).length) := Lib.hid (by rw [rws_len, hpn]; omega)
  have HS1 : Hid ((rws ps).set c0 (cV ⟨x, [], 0, at_⟩ (.slice none 0 0)) = rws (ps.set c0 ⟨⟨x, [], 0, at_⟩, none, 0⟩)) := Lib.hid (rws_set ps c0 ⟨⟨x, [], 0, at_⟩, none, 0⟩)
  have HX1 : Hid ((rws (ps.set c0 ⟨⟨x, [], 0, at_⟩, none, 0⟩))[c0]? = some (pcV ⟨⟨x, [], 0, at_⟩, none, 0⟩)) := Lib.hid (rws_get (List.getElem?_set_self (by rw [hpn]; omega)))
  have HS2 : Hid ((rws (ps.set c0 ⟨⟨x, [], 0, at_⟩, none, 0⟩)).set c0 ((pcV ⟨⟨x, [], 0, at_⟩, none, 0⟩).set 2 (.int .u8 1)) = rws (ps.set c0 ⟨⟨x, [], 1, at_⟩, none, 0⟩)) := Lib.hid (by
    have h := rws_set (ps.set c0 ⟨⟨x, [], 0, at_⟩, none, 0⟩) c0 ⟨⟨x, [], 1, at_⟩, none, 0⟩
    rw [List.set_set] at h
    exact h)
  have HK2 : Hid (c0 + 1 < (rws (ps.set c0 ⟨⟨x, [], 1, at_⟩, none, 0⟩)).length) := Lib.hid (by rw [rws_len, List.length_set, hpn]; omega)
  have HS3 : Hid ((rws (ps.set c0 ⟨⟨x, [], 1, at_⟩, none, 0⟩)).set (c0 + 1) (cV ⟨0, [], 2, at_⟩ (.slice none 0 0)) = rws ((ps.set c0 ⟨⟨x, [], 1, at_⟩, none, 0⟩).set (c0 + 1) ⟨⟨0, [], 2, at_⟩, none, 0⟩)) := Lib.hid (rws_set (ps.set c0 ⟨⟨x, [], 1, at_⟩, none, 0⟩) (c0 + 1) ⟨⟨0, [], 2, at_⟩, none, 0⟩)
  clear hpn hps
  refine region_mix [([0, 1, 2, 3, 4, 5, 6, 7, 8], [9])] [] hs (fun _ h => by (show sat W [cel b 96 [.slice (some ⟨g, 0, none⟩) n p9], cel z4 25 (aC at_)] _; refine sb_from ?_ h; repeat constructor)) (by kernel_rfl) (by kernel_rfl) (fun _ _ _ _ _ h => h) ?_
  simp only [segs, nths, nth, List.append_nil, List.nil_append, List.cons_append, List.map_cons, List.map_nil]
  refine seg_reads (fun _ h => by (show sat W [cel b 96 [.slice (some ⟨g, 0, none⟩) n p9], cel z4 25 (aC at_)] _; refine sb_from ?_ h; repeat constructor)) ?_; intro X f hne hf hcl; (try simp only [Act.put, List.setIfInBounds_toArray, List.set_cons_succ, List.set_cons_zero]); (repeat ((first | ((with_reducible apply ldsq 3 (fun x => (hf x).b0)); exact rfl; exact rfl; exact rfl; exact row33; exact rfl; exact rfl) | ((with_reducible apply ldsq 3 (fun x => (hf x).b1)); exact rfl; exact rfl; exact rfl; exact row33; exact rfl; exact rfl) | ((with_reducible apply ldq (fun x => (hf x).b0)); exact rfl; exact rfl; exact rfl; exact rfl; kernel_rfl) | ((with_reducible apply ldq (fun x => (hf x).b1)); exact rfl; exact rfl; exact rfl; exact rfl; kernel_rfl) | ((with_reducible apply ldq (fun x => (hf x).b2)); exact rfl; exact rfl; exact rfl; exact rfl; kernel_rfl) | go_big_quiet_step (fail)); (try simp only [Act.put, List.setIfInBounds_toArray, List.set_cons_succ, List.set_cons_zero]))); refine wpQuiet_nil ?_; clear hcl hf hne hs f X; intro w hs
  go_wp2_with (first | (first | ((with_reducible apply stor hs.b0); exact rfl; exact rfl; exact rfl; exact rfl; exact HK.out; exact rws6 _; exact row41; exact rfl; exact rfl; exact rfl; clear hs; intro w hs; rw [HS1.out] at hs) | ((with_reducible apply stor hs.b1); exact rfl; exact rfl; exact rfl; exact rfl; exact HK.out; exact rws6 _; exact row41; exact rfl; exact rfl; exact rfl; clear hs; intro w hs; rw [HS1.out] at hs) | ((with_reducible apply stor hs.b2); exact rfl; exact rfl; exact rfl; exact rfl; exact HK.out; exact rws6 _; exact row41; exact rfl; exact rfl; exact rfl; clear hs; intro w hs; rw [HS1.out] at hs) | ((with_reducible apply stor hs.b3); exact rfl; exact rfl; exact rfl; exact rfl; exact HK.out; exact rws6 _; exact row41; exact rfl; exact rfl; exact rfl; clear hs; intro w hs; rw [HS1.out] at hs)) | ((with_reducible refine isl ?_); first | ((with_reducible apply ld hs.b0); exact rfl; exact rfl; exact rfl; exact rfl; kernel_rfl) | ((with_reducible apply st hs.b0); exact rfl; exact rfl; exact rfl; exact rfl; exact rfl; exact rfl; kernel_rfl; exact rfl; clear hs; intro w hs) | ((with_reducible apply stc hs.b0); exact rfl; exact rfl; exact rfl; exact rfl; exact rfl; kernel_rfl; exact rfl; clear hs; intro w hs) | ((with_reducible refine wrap hs ?_); clear hs; intro w hs) | ((with_reducible refine wrapn hs ?_); clear hs; intro w hs) | ((with_reducible refine wrapd hs ?_); clear hs; intro w hs)))
  (first | refine seg_on hs (fun _ h => h) ?_ ?_ | refine seg_on hs.made (fun _ h => h) ?_ ?_ | refine seg_on hs.drew (fun _ h => h) ?_ ?_ | refine seg_on hs.drew.made (fun _ h => h) ?_ ?_ | refine seg_on (hs.drewN _) (fun _ h => h) ?_ ?_)
  · exact fun _ h => by (show sat W [cel b 96 [.slice (some ⟨g, 0, none⟩) n p9], cel z4 25 (aC at_)] _; refine sb_from ?_ h; repeat constructor)
  clear hs; intro hs
  refine seg_last (fun _ h => by (show sat W [cel b 96 [.slice (some ⟨g, 0, none⟩) n p9], cel z4 25 (aC at_)] _; refine sb_from ?_ h; repeat constructor)) ?_; intro X f hne hf hcl; (try simp only [Act.put, List.setIfInBounds_toArray, List.set_cons_succ, List.set_cons_zero]); (repeat ((first | ((with_reducible apply ldsq 3 (fun x => (hf x).b0)); exact rfl; exact rfl; exact rfl; exact row33; exact rfl; exact rfl) | ((with_reducible apply ldsq 3 (fun x => (hf x).b1)); exact rfl; exact rfl; exact rfl; exact row33; exact rfl; exact rfl) | ((with_reducible apply ldq (fun x => (hf x).b0)); exact rfl; exact rfl; exact rfl; exact rfl; kernel_rfl) | ((with_reducible apply ldq (fun x => (hf x).b1)); exact rfl; exact rfl; exact rfl; exact rfl; kernel_rfl) | ((with_reducible apply ldq (fun x => (hf x).b2)); exact rfl; exact rfl; exact rfl; exact rfl; kernel_rfl) | go_big_quiet_step (fail)); (try simp only [Act.put, List.setIfInBounds_toArray, List.set_cons_succ, List.set_cons_zero]))); refine wpQuiet_nil ?_; clear hcl hf hne hs f X; intro w hs
  go_wp2_with (first | (first | ((with_reducible apply stofc hs.b0); exact rfl; exact rfl; exact rfl; exact rfl; exact HX1.out; exact rws6 _; exact rfl; exact one5; exact rfl; clear hs; intro w hs; rw [HS2.out] at hs) | ((with_reducible apply stofc hs.b1); exact rfl; exact rfl; exact rfl; exact rfl; exact HX1.out; exact rws6 _; exact rfl; exact one5; exact rfl; clear hs; intro w hs; rw [HS2.out] at hs) | ((with_reducible apply stofc hs.b2); exact rfl; exact rfl; exact rfl; exact rfl; exact HX1.out; exact rws6 _; exact rfl; exact one5; exact rfl; clear hs; intro w hs; rw [HS2.out] at hs) | ((with_reducible apply stofc hs.b3); exact rfl; exact rfl; exact rfl; exact rfl; exact HX1.out; exact rws6 _; exact rfl; exact one5; exact rfl; clear hs; intro w hs; rw [HS2.out] at hs)) | ((with_reducible refine isl ?_); first | ((with_reducible apply ld hs.b0); exact rfl; exact rfl; exact rfl; exact rfl; kernel_rfl) | ((with_reducible apply ld hs.b1); exact rfl; exact rfl; exact rfl; exact rfl; kernel_rfl) | ((with_reducible apply ld hs.b2); exact rfl; exact rfl; exact rfl; exact rfl; kernel_rfl) | ((with_reducible apply st hs.b0); exact rfl; exact rfl; exact rfl; exact rfl; exact rfl; exact rfl; kernel_rfl; exact rfl; clear hs; intro w hs) | ((with_reducible apply st hs.b1); exact rfl; exact rfl; exact rfl; exact rfl; exact rfl; exact rfl; kernel_rfl; exact rfl; clear hs; intro w hs) | ((with_reducible apply st hs.b2); exact rfl; exact rfl; exact rfl; exact rfl; exact rfl; exact rfl; kernel_rfl; exact rfl; clear hs; intro w hs) | ((with_reducible apply stc hs.b0); exact rfl; exact rfl; exact rfl; exact rfl; exact rfl; kernel_rfl; exact rfl; clear hs; intro w hs) | ((with_reducible apply stc hs.b1); exact rfl; exact rfl; exact rfl; exact rfl; exact rfl; kernel_rfl; exact rfl; clear hs; intro w hs) | ((with_reducible apply stc hs.b2); exact rfl; exact rfl; exact rfl; exact rfl; exact rfl; kernel_rfl; exact rfl; clear hs; intro w hs) | ((with_reducible refine wrap hs ?_); clear hs; intro w hs) | ((with_reducible refine wrapn hs ?_); clear hs; intro w hs) | ((with_reducible refine wrapd hs ?_); clear hs; intro w hs)))
  refine region_mix [([0, 1, 2, 3, 4, 5, 6, 7, 8], [9])] [] hs (fun _ h => by (show sat W [cel b 96 [.slice (some ⟨g, 0, none⟩) n p9], cel z4 25 (aC at_)] _; refine sb_from ?_ h; repeat constructor)) (by kernel_rfl) (by kernel_rfl) (fun _ _ _ _ _ h => h) ?_
  simp only [segs, nths, nth, List.append_nil, List.nil_append, List.cons_append, List.map_cons, List.map_nil]
  refine seg_reads (fun _ h => by (show sat W [cel b 96 [.slice (some ⟨g, 0, none⟩) n p9], cel z4 25 (aC at_)] _; refine sb_from ?_ h; repeat constructor)) ?_; intro X f hne hf hcl; (try simp only [Act.put, List.setIfInBounds_toArray, List.set_cons_succ, List.set_cons_zero]); (repeat ((first | ((with_reducible apply ldsq 3 (fun x => (hf x).b0)); exact rfl; exact rfl; exact rfl; exact row33; exact rfl; exact rfl) | ((with_reducible apply ldsq 3 (fun x => (hf x).b1)); exact rfl; exact rfl; exact rfl; exact row33; exact rfl; exact rfl) | ((with_reducible apply ldq (fun x => (hf x).b0)); exact rfl; exact rfl; exact rfl; exact rfl; kernel_rfl) | ((with_reducible apply ldq (fun x => (hf x).b1)); exact rfl; exact rfl; exact rfl; exact rfl; kernel_rfl) | ((with_reducible apply ldq (fun x => (hf x).b2)); exact rfl; exact rfl; exact rfl; exact rfl; kernel_rfl) | go_big_quiet_step (fail)); (try simp only [Act.put, List.setIfInBounds_toArray, List.set_cons_succ, List.set_cons_zero]))); refine wpQuiet_nil ?_; clear hcl hf hne hs f X; intro w hs
  go_wp2_with (first | (first | ((with_reducible apply stor hs.b0); exact rfl; exact rfl; exact rfl; exact rfl; exact HK2.out; exact rws6 _; exact row41; exact rfl; exact rfl; exact rfl; clear hs; intro w hs; rw [HS3.out] at hs) | ((with_reducible apply stor hs.b1); exact rfl; exact rfl; exact rfl; exact rfl; exact HK2.out; exact rws6 _; exact row41; exact rfl; exact rfl; exact rfl; clear hs; intro w hs; rw [HS3.out] at hs) | ((with_reducible apply stor hs.b2); exact rfl; exact rfl; exact rfl; exact rfl; exact HK2.out; exact rws6 _; exact row41; exact rfl; exact rfl; exact rfl; clear hs; intro w hs; rw [HS3.out] at hs) | ((with_reducible apply stor hs.b3); exact rfl; exact rfl; exact rfl; exact rfl; exact HK2.out; exact rws6 _; exact row41; exact rfl; exact rfl; exact rfl; clear hs; intro w hs; rw [HS3.out] at hs)) | ((with_reducible refine isl ?_); first | ((with_reducible apply ld hs.b0); exact rfl; exact rfl; exact rfl; exact rfl; kernel_rfl) | ((with_reducible apply st hs.b0); exact rfl; exact rfl; exact rfl; exact rfl; exact rfl; exact rfl; kernel_rfl; exact rfl; clear hs; intro w hs) | ((with_reducible apply stc hs.b0); exact rfl; exact rfl; exact rfl; exact rfl; exact rfl; kernel_rfl; exact rfl; clear hs; intro w hs) | ((with_reducible refine wrap hs ?_); clear hs; intro w hs) | ((with_reducible refine wrapn hs ?_); clear hs; intro w hs) | ((with_reducible refine wrapd hs ?_); clear hs; intro w hs)))
  (first | refine seg_on hs (fun _ h => h) ?_ ?_ | refine seg_on hs.made (fun _ h => h) ?_ ?_ | refine seg_on hs.drew (fun _ h => h) ?_ ?_ | refine seg_on hs.drew.made (fun _ h => h) ?_ ?_ | refine seg_on (hs.drewN _) (fun _ h => h) ?_ ?_)
  · exact fun _ h => by (show sat W [cel b 96 [.slice (some ⟨g, 0, none⟩) n p9], cel z4 25 (aC at_)] _; refine sb_from ?_ h; repeat constructor)
  clear hs; intro hs
  refine seg_last (fun _ h => by (show sat W [cel b 96 [.slice (some ⟨g, 0, none⟩) n p9], cel z4 25 (aC at_)] _; refine sb_from ?_ h; repeat constructor)) ?_; intro X f hne hf hcl; (try simp only [Act.put, List.setIfInBounds_toArray, List.set_cons_succ, List.set_cons_zero]); (repeat ((first | ((with_reducible apply ldsq 3 (fun x => (hf x).b0)); exact rfl; exact rfl; exact rfl; exact row33; exact rfl; exact rfl) | ((with_reducible apply ldsq 3 (fun x => (hf x).b1)); exact rfl; exact rfl; exact rfl; exact row33; exact rfl; exact rfl) | ((with_reducible apply ldq (fun x => (hf x).b0)); exact rfl; exact rfl; exact rfl; exact rfl; kernel_rfl) | ((with_reducible apply ldq (fun x => (hf x).b1)); exact rfl; exact rfl; exact rfl; exact rfl; kernel_rfl) | ((with_reducible apply ldq (fun x => (hf x).b2)); exact rfl; exact rfl; exact rfl; exact rfl; kernel_rfl) | go_big_quiet_step (fail)); (try simp only [Act.put, List.setIfInBounds_toArray, List.set_cons_succ, List.set_cons_zero]))); refine wpQuiet_nil ?_; clear hcl hf hne hs f X; intro w hs
  go_wp2_with fail
  go_ret
  refine ⟨rfl, ?_⟩
  rw [HG.out]
  have h6 : sat W (cmb ps :: cel b 96 [.slice (some ⟨g, 0, none⟩) n p9] :: own 110 6 (.slice (some ⟨g, 0, none⟩) n p9) n (rws ((ps.set c0 ⟨⟨x, [], 1, at_⟩, none, 0⟩).set (c0 + 1) ⟨⟨0, [], 2, at_⟩, none, 0⟩)).flatten :: H) w := by refine sb_from ?_ hs; repeat constructor
  have h7 := cmb_setn (i := c0 + 1) (c := ⟨0, [], 2, at_⟩) rfl (cmb_setn (i := c0) (c := ⟨x, [], 1, at_⟩) rfl h6)
  have h8 := rw_close (ps := (ps.set c0 ⟨⟨x, [], 1, at_⟩, none, 0⟩).set (c0 + 1) ⟨⟨0, [], 2, at_⟩, none, 0⟩) (T := 96) (b := b) (n := n) (a := some ⟨g, 0, none⟩) (p := p9) (by simp only [List.length_set]; exact HP.out.1) (by refine sb_from ?_ h7; repeat constructor)
  simp only [List.map_set, HP.out.2] at h8
  exact h8
theorem put22 {b n : Nat} {l : List C} {k x : Int} {wide : Bool} {at_ : At} (hn : l.length = n) (h0 : 0 < n) (h512 : n ≤ 1000) (hs : sat W (rwP 96 b l :: H) w) :
    Calls Try.prog 56 #[.pointer (some ⟨b, 0, none⟩), .int .i64 k, .int .i32 x, .bool wide, aV at_] w fun e w' => e = .returned (.int .i64 (putG l k x wide at_).2) ∧ sat W (rwP 96 b (putG l k x wide at_).1 :: H) w' := by
  by_cases h : ¬ mayC x ∨ k < 0 ∨ (n : Int) - (if wide then 2 else 1) < k
  · have e : putG l k x wide at_ = (l, 2) := by
      unfold putG
      rw [if_pos (by rw [hn]; exact h)]
    rw [e]
    exact put22_no hn h0 h512 h hs
  · have hm : mayC x := by
      by_cases hm : mayC x
      · exact hm
      · exact absurd (.inl hm) h
    have hk0 : 0 ≤ k := by omega
    obtain ⟨c0, rfl⟩ : ∃ c0 : Nat, k = (c0 : Int) := ⟨k.toNat, by omega⟩
    have e : (putG l c0 x wide at_).2 = 0 := by
      unfold putG
      rw [if_neg (by rw [hn]; exact h)]
      split <;> rfl
    rw [e]
    cases wide with
    | false => exact put22_false hn h512 hm (by simp at h; omega) hs
    | true => exact put22_true hn h512 hm (by simp at h; omega) hs
end Go.Proofs.Ytdcagaaanbgcoaa
