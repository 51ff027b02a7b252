/- Law 6: Blank. -/
import Derived.Test.YteoeeiinngpogaaV9
namespace Go.Proofs.Yteoeeiinngpogaa
open Go.RowKit Go.Mem Go.Cells
variable {W w : World} {H : List HProp}
theorem rws_nil0 : rws [] = [] := rfl
attribute [local irreducible] World.setCell World.setCells World.alloc World.drew World.drewN Calls sat cel own blk old wpQuiet wpList cmb cmb1 rwP cls rws partC md World.rangeAt
theorem lam46 {c : C} {a : Option Addr} {n p : Nat} (hn : c.comb.length = n) (hs : sat W H w) : Calls Try.prog 46 #[cA c (.slice a n p)] w fun e w' => e = .returned (.bool (!decide (isB c))) ∧ sat W H w' := by
  have HN := Lib.hid hn
  clear hn
  go_enter Try.func46, Try.ntmps46
  go_wp2_with (first | (go_at_call 47; refine (isBlank47 HN.out hs).mono ?_; clear hs; rintro e w ⟨rfl, hs⟩) | ((with_reducible refine isl ?_); first | ((with_reducible apply stsw hs.b0); exact rfl; exact rfl; exact rfl; exact rfl; exact row41; exact rfl; exact rfl; exact rfl; clear hs; intro w hs) | ((with_reducible apply ldsw hs.b0); exact rfl; exact rfl; exact rfl; exact row41) | ((with_reducible apply ld hs.b0); exact rfl; exact rfl; exact rfl; exact rfl; kernel_rfl) | ((with_reducible apply st hs.b0); exact rfl; exact rfl; exact rfl; exact rfl; exact rfl; exact rfl; kernel_rfl; exact rfl; clear hs; intro w hs) | ((with_reducible apply stc hs.b0); exact rfl; exact rfl; exact rfl; exact rfl; exact rfl; kernel_rfl; exact rfl; clear hs; intro w hs) | ((with_reducible refine wrap hs ?_); clear hs; (first | generalize w.heap.size = z4); intro w hs) | ((with_reducible refine wrap hs ?_); clear hs; intro w hs) | ((with_reducible refine wrapn hs ?_); clear hs; intro w hs) | ((with_reducible refine wrapd hs ?_); clear hs; intro w hs)))
  go_ret
  exact ⟨rfl, hs.drop⟩
theorem held41o {b n p : Nat} {a : Option Addr} {i : Int} (hs : sat W (cel b 55 [.slice a n p] :: H) w) : Calls Try.prog 41 #[.pointer (some ⟨b, 0, none⟩), .int .i64 i] w fun e w' => e = .returned (.int .i64 (min (max i 0) n)) ∧ sat W (cel b 55 [.slice a n p] :: H) w' := by
  go_enter Try.func41, Try.ntmps41
  go_wp2_with (first | ((with_reducible refine isl ?_); first | ((with_reducible apply ld hs.b0); exact rfl; exact rfl; exact rfl; exact rfl; kernel_rfl) | ((with_reducible apply st hs.b0); exact rfl; exact rfl; exact rfl; exact rfl; exact rfl; exact rfl; kernel_rfl; exact rfl; clear hs; intro w hs) | ((with_reducible apply stc hs.b0); exact rfl; exact rfl; exact rfl; exact rfl; exact rfl; kernel_rfl; exact rfl; clear hs; intro w hs) | ((with_reducible refine wrap hs ?_); clear hs; intro w hs) | ((with_reducible refine wrapn hs ?_); clear hs; intro w hs) | ((with_reducible refine wrapd hs ?_); clear hs; intro w hs)))
  all_goals
    go_ret
    exact ⟨ret_int (by omega), hs⟩
theorem index56 {a : Option Addr} {n c : Nat} {ps : List PC} (S : SR 6 W H a n c (rws ps)) (h1000 : n ≤ 1000) (hs : sat W H w) : Calls Try.prog 56 #[.slice a n c, .func (.func 46) #[] #[]] w fun e w' => ∃ r : Int, e = .returned (.int .i64 r) ∧ (0 ≤ r ↔ ¬ ∀ x ∈ ps, isB x.c) ∧ sat W H w' := by
  have hlen : n = ps.length := by have := S.len.1; rwa [rws_len] at this
  have HLEN := Lib.hid hlen
  have HS := Lib.hid S
  clear S hlen
  go_enter Try.func56, Try.ntmps56
  go_wp2_with fail
  go_loopw [8] (fun i wr => ∃ k : Nat, k ≤ n ∧ i = .int .i64 (k : Int) ∧ Hid (∀ x ∈ ps.take k, isB x.c) ∧ sat W H wr) (fun i _ => ((n : Int) - intOf i).toNat)
  case atStart => exact ⟨0, Nat.zero_le _, rfl, Lib.hid (by simp), hs⟩
  case round =>
    clear hs
    obtain ⟨k, hk, rfl, HI, hs⟩ := hrel
    by_cases hkn : k < n
    · obtain ⟨x, hx⟩ : ∃ x, ps[k]? = some x := ⟨_, List.getElem?_eq_getElem (by have := HLEN.out; omega)⟩
      obtain ⟨_, b1, o1, rfl, hc⟩ := HS.out.get hs (rws_get hx)
      have HC := Lib.hid hc
      have HX := Lib.hid hx
      clear hc hx
      by_cases hb : isB x.c
      · have HB : Hid ((!decide (isB x.c)) = false) := Lib.hid (by simp [hb])
        have HB2 := Lib.hid hb
        clear hb
        go_wp2_with (first | (go_at_call 46; refine (lam46 (c := x.c) rfl hs).mono ?_; clear hs; rintro e w ⟨rfl, hs⟩; rw [HB.out]) | ((with_reducible refine isl ?_); first | ((with_reducible apply ldsc (cs := pcV x)); exact rfl; exact rfl; exact rfl; exact HC.out _ hs; exact row41) | ((with_reducible refine wrap hs ?_); clear hs; intro w hs) | ((with_reducible refine wrapn hs ?_); clear hs; intro w hs) | ((with_reducible refine wrapd hs ?_); clear hs; intro w hs)))
        go_roundw
        case rel => exact ⟨k + 1, by omega, by go_num, Lib.hid (by
          intro y hy
          rw [List.take_add_one, HX.out] at hy
          rcases List.mem_append.1 hy with h | h
          · exact HI.out y h
          · simp at h; rw [h]; exact HB2.out), hs⟩
        case measure => simp [intOf]; omega
      · have HB : Hid ((!decide (isB x.c)) = true) := Lib.hid (by simp [hb])
        have HB2 := Lib.hid hb
        clear hb
        go_wp2_with (first | (go_at_call 46; refine (lam46 (c := x.c) rfl hs).mono ?_; clear hs; rintro e w ⟨rfl, hs⟩; rw [HB.out]) | ((with_reducible refine isl ?_); first | ((with_reducible apply ldsc (cs := pcV x)); exact rfl; exact rfl; exact rfl; exact HC.out _ hs; exact row41) | ((with_reducible refine wrap hs ?_); clear hs; intro w hs) | ((with_reducible refine wrapn hs ?_); clear hs; intro w hs) | ((with_reducible refine wrapd hs ?_); clear hs; intro w hs)))
        go_ret
        exact ⟨_, rfl, ⟨fun _ h => HB2.out (h x (List.mem_of_getElem? HX.out)), fun _ => by omega⟩, hs⟩
    · have hge : ¬ (k : Int) < (n : Int) := by omega
      have HE : Hid (∀ x ∈ ps, isB x.c) := Lib.hid (by have h := HI.out; rwa [List.take_of_length_le (by have := HLEN.out; omega)] at h)
      clear hkn
      go_wp2_with fail
      go_ret
      exact ⟨_, rfl, ⟨fun h => absurd h (by decide), fun h => by obtain ⟨x, h1, h2⟩ := h; exact absurd (HE.out x h1) h2⟩, hs⟩
theorem contains45 {a : Option Addr} {n c : Nat} {ps : List PC} (S : SR 6 W H a n c (rws ps)) (h1000 : n ≤ 1000) (hs : sat W H w) : Calls Try.prog 45 #[.slice a n c, .func (.func 46) #[] #[]] w fun e w' => e = .returned (.bool (!decide (∀ x ∈ ps, isB x.c))) ∧ sat W H w' := by
  have HS := Lib.hid S
  clear S
  go_enter Try.func45, Try.ntmps45
  go_wp2_with (first | (go_at_call 56; refine (index56 HS.out h1000 hs).mono ?_; clear hs; rintro e w ⟨r, rfl, hr, hs⟩; replace hr := Lib.hid hr) | ((with_reducible refine isl ?_); first | ((with_reducible refine wrap hs ?_); clear hs; intro w hs) | ((with_reducible refine wrapn hs ?_); clear hs; intro w hs) | ((with_reducible refine wrapd hs ?_); clear hs; intro w hs)))
  go_ret
  refine ⟨ret_bool ?_, hs⟩
  rw [Bool.eq_iff_iff]
  simp only [decide_eq_true_eq, Bool.not_eq_true', decide_eq_false_iff_not]
  exact hr.out.symm
theorem blank18 {b n : Nat} {l : List C} {k : Int} (hn : l.length = n) (h0 : 0 < n) (h512 : n ≤ 1000) (hs : sat W (rwP 55 b l :: H) w) : Calls Try.prog 18 #[.pointer (some ⟨b, 0, none⟩), .int .i64 k] w fun e w' => e = .returned (.bool (decide (∀ c ∈ l.drop (min (max k 0) n).toNat, isB c))) ∧ sat W (rwP 55 b l :: H) w' := by
  have HN0 := Lib.hid hn
  obtain ⟨c0, hc0⟩ : ∃ c0 : Nat, (c0 : Int) = min (max k 0) (n : Int) := ⟨(min (max k 0) (n : Int)).toNat, by omega⟩
  have HF1 := Lib.hid hc0.symm
  have hc1 : (c0 : Int) ≤ (n : Int) := by omega
  have hc2 : (min (max k 0) (n : Int)).toNat = c0 := by omega
  rw [hc2]
  clear hn hc0 hc2
  go_enter Try.func18, Try.ntmps18
  go_upto_region 3 with (first | (go_at_call 40; refine (ready40 HN0.out h0 (by apply sk_from (hs := hs); repeat constructor)).mono ?_; clear hs; rintro e w ⟨rfl, hs⟩) | ((with_reducible refine isl ?_); first | ((with_reducible apply ld hs.b0); exact rfl; exact rfl; exact rfl; exact rfl; kernel_rfl) | ((with_reducible apply ld hs.b1); exact rfl; exact rfl; exact rfl; exact rfl; kernel_rfl) | ((with_reducible apply st hs.b0); exact rfl; exact rfl; exact rfl; exact rfl; exact rfl; exact rfl; kernel_rfl; exact rfl; clear hs; intro w hs) | ((with_reducible apply st hs.b1); exact rfl; exact rfl; exact rfl; exact rfl; exact rfl; exact rfl; kernel_rfl; exact rfl; clear hs; intro w hs) | ((with_reducible apply stc hs.b0); exact rfl; exact rfl; exact rfl; exact rfl; exact rfl; kernel_rfl; exact rfl; clear hs; intro w hs) | ((with_reducible apply stc hs.b1); exact rfl; exact rfl; exact rfl; exact rfl; exact rfl; kernel_rfl; exact rfl; clear hs; intro w hs) | ((with_reducible refine wrap hs ?_); clear hs; intro w hs) | ((with_reducible refine wrapn hs ?_); clear hs; intro w hs) | ((with_reducible refine wrapd hs ?_); clear hs; intro w hs)))
  obtain ⟨ps, a9, p9, hps, hs⟩ := rw_open HN0.out hs
  have HP : Hid (ps.length = n ∧ ps.map (·.c) = l) := Lib.hid ⟨by rw [← HN0.out, ← hps, List.length_map], hps⟩
  obtain ⟨g, rfl⟩ := own_ptr h0 hs.b1
  have hcap := hs.b1.own_len
  clear hps
  have S : SR 6 W (own 41 6 (.slice (some ⟨g, 0, none⟩) n p9) n (rws ps).flatten :: cel b 55 [.slice (some ⟨g, 0, none⟩) n p9] :: cmb ps :: H) (some ⟨g, 0, none⟩) n p9 (rws ps) := SR.of_own hs.b1 (by decide) (rws6 ps)
  have hs : sat W (own 41 6 (.slice (some ⟨g, 0, none⟩) n p9) n (rws ps).flatten :: cel b 55 [.slice (some ⟨g, 0, none⟩) n p9] :: cmb ps :: H) w := hs.b1
  have HNAT : c0 ≤ n := by omega
  have hcap1 : n ≤ p9 := hcap.1
  have HRES : Hid (∀ qs : List PC, qs = ps.drop c0 → decide (∀ x ∈ qs, isB x.c) = decide (∀ c ∈ l.drop c0, isB c)) := Lib.hid (by
    rintro qs rfl
    rw [← HP.out.2, ← List.map_drop]
    apply decide_eq_decide.2
    constructor
    · intro h c hc
      obtain ⟨x, hx, rfl⟩ := List.mem_map.1 hc
      exact h x hx
    · intro h x hx
      exact h x.c (List.mem_map.2 ⟨x, hx, rfl⟩))
  by_cases hp : p9 = c0
  · have S2 : Hid (SR 6 W (own 41 6 (.slice (some ⟨g, 0, none⟩) n p9) n (rws ps).flatten :: cel b 55 [.slice (some ⟨g, 0, none⟩) n p9] :: cmb ps :: H) (some ⟨g, 0, none⟩) (n - c0) 0 (rws (ps.drop c0))) := Lib.hid (by
      rw [List.drop_eq_nil_of_le (by rw [HP.out.1]; omega), rws_nil0]
      exact SR.nil (by omega) (by unfold maxLen; omega))
    have hn0 : n - c0 ≤ 1000 := by omega
    refine region_mix [([0, 1, 2, 3, 4, 5], [6]), ([7], [8])] [9, 10] hs (fun _ h => by (show sat W [cel b 55 [.slice (some ⟨g, 0, none⟩) n p9]] _; refine sb_from ?_ h; repeat constructor)) (by kernel_rfl) (by kernel_rfl) (fun _ _ _ _ _ h => h) ?_
    simp only [segs, nths, nth, List.append_nil, List.nil_append, List.cons_append, List.map_cons, List.map_nil]
    refine seg_reads (fun _ h => by (show sat W [cel b 55 [.slice (some ⟨g, 0, none⟩) n p9]] _; refine sb_from ?_ h; repeat constructor)) ?_; intro X f hne hf hcl; (try simp only [Act.put, List.setIfInBounds_toArray, List.set_cons_succ, List.set_cons_zero]); (repeat ((first | ((with_reducible apply ldq (fun x => (hf x).b0)); exact rfl; exact rfl; exact rfl; exact rfl; kernel_rfl) | ((with_reducible apply ldq (fun x => (hf x).b1)); exact rfl; exact rfl; exact rfl; exact rfl; kernel_rfl) | go_big_quiet_step (fail)); (try simp only [Act.put, List.setIfInBounds_toArray, List.set_cons_succ, List.set_cons_zero]))); refine wpQuiet_nil ?_; clear hcl hf hne hs f X; intro w hs
    go_wp2_with (first | (go_at_call 41; refine (held41o (by apply sk_from (hs := hs); repeat constructor)).mono ?_; clear hs; rintro e w ⟨rfl, hs⟩; rw [HF1.out]) | (go_at_call 45; refine (contains45 S2.out hn0 (by refine sb_from ?_ hs; repeat constructor)).mono ?_; clear hs; rintro e w ⟨rfl, hs⟩) | ((with_reducible refine isl ?_); first | ((with_reducible refine wrap hs ?_); clear hs; intro w hs) | ((with_reducible refine wrapn hs ?_); clear hs; intro w hs) | ((with_reducible refine wrapd hs ?_); clear hs; intro w hs)))
    (first | refine seg_on hs (fun _ h => h) ?_ ?_ | refine seg_on hs.made (fun _ h => h) ?_ ?_ | refine seg_on hs.drew (fun _ h => h) ?_ ?_ | refine seg_on hs.drew.made (fun _ h => h) ?_ ?_ | refine seg_on (hs.drewN _) (fun _ h => h) ?_ ?_)
    · exact fun _ h => by (show sat W [cel b 55 [.slice (some ⟨g, 0, none⟩) n p9]] _; refine sb_from ?_ h; repeat constructor)
    clear hs; intro hs
    refine seg_reads (fun _ h => by (show sat W [cel b 55 [.slice (some ⟨g, 0, none⟩) n p9]] _; refine sb_from ?_ h; repeat constructor)) ?_; intro X f hne hf hcl; (try simp only [Act.put, List.setIfInBounds_toArray, List.set_cons_succ, List.set_cons_zero]); (repeat ((first | ((with_reducible apply ldq (fun x => (hf x).b0)); exact rfl; exact rfl; exact rfl; exact rfl; kernel_rfl) | ((with_reducible apply ldq (fun x => (hf x).b1)); exact rfl; exact rfl; exact rfl; exact rfl; kernel_rfl) | go_big_quiet_step (fail)); (try simp only [Act.put, List.setIfInBounds_toArray, List.set_cons_succ, List.set_cons_zero]))); refine wpQuiet_nil ?_; clear hcl hf hne hs f X; intro w hs
    go_wp2_with (first | (go_at_call 41; refine (held41o (by apply sk_from (hs := hs); repeat constructor)).mono ?_; clear hs; rintro e w ⟨rfl, hs⟩; rw [HF1.out]) | (go_at_call 45; refine (contains45 S2.out hn0 (by refine sb_from ?_ hs; repeat constructor)).mono ?_; clear hs; rintro e w ⟨rfl, hs⟩) | ((with_reducible refine isl ?_); first | ((with_reducible refine wrap hs ?_); clear hs; intro w hs) | ((with_reducible refine wrapn hs ?_); clear hs; intro w hs) | ((with_reducible refine wrapd hs ?_); clear hs; intro w hs)))
    (first | refine seg_on hs (fun _ h => h) ?_ ?_ | refine seg_on hs.made (fun _ h => h) ?_ ?_ | refine seg_on hs.drew (fun _ h => h) ?_ ?_ | refine seg_on hs.drew.made (fun _ h => h) ?_ ?_ | refine seg_on (hs.drewN _) (fun _ h => h) ?_ ?_)
    · exact fun _ h => by (show sat W [cel b 55 [.slice (some ⟨g, 0, none⟩) n p9]] _; refine sb_from ?_ h; repeat constructor)
    clear hs; intro hs
    refine seg_last (fun _ h => by (show sat W [cel b 55 [.slice (some ⟨g, 0, none⟩) n p9]] _; refine sb_from ?_ h; repeat constructor)) ?_; intro X f hne hf hcl; (try simp only [Act.put, List.setIfInBounds_toArray, List.set_cons_succ, List.set_cons_zero]); (repeat ((first | ((with_reducible apply ldq (fun x => (hf x).b0)); exact rfl; exact rfl; exact rfl; exact rfl; kernel_rfl) | ((with_reducible apply ldq (fun x => (hf x).b1)); exact rfl; exact rfl; exact rfl; exact rfl; kernel_rfl) | go_big_quiet_step (fail)); (try simp only [Act.put, List.setIfInBounds_toArray, List.set_cons_succ, List.set_cons_zero]))); refine wpQuiet_nil ?_; clear hcl hf hne hs f X; intro w hs
    go_wp2_with fail
    go_ret
    refine ⟨ret_bool ?_, ?_⟩
    · exact (HRES.out _ rfl).symm
    · have h6 := rw_close (T := 55) (b := b) HP.out.1 (by refine sb_from ?_ hs; repeat constructor)
      rw [HP.out.2] at h6
      exact h6
  · have S2 : Hid (SR 6 W (own 41 6 (.slice (some ⟨g, 0, none⟩) n p9) n (rws ps).flatten :: cel b 55 [.slice (some ⟨g, 0, none⟩) n p9] :: cmb ps :: H) (some ⟨g, c0 * 6, none⟩) (n - c0) (p9 - c0) (rws (ps.drop c0))) := Lib.hid (by
      have h := S.drop (k := c0) HNAT
      rw [Nat.zero_add, rws_drop] at h
      exact h)
    have hn0 : n - c0 ≤ 1000 := by omega
    have hp2 : ¬ c0 = p9 := by omega
    have hp3 : ¬ p9 - c0 = 0 := by omega
    have hp4 : ¬ p9 ≤ c0 := by omega
    refine region_mix [([0, 1, 2, 3, 4, 5], [6]), ([7], [8])] [9, 10] hs (fun _ h => by (show sat W [cel b 55 [.slice (some ⟨g, 0, none⟩) n p9]] _; refine sb_from ?_ h; repeat constructor)) (by kernel_rfl) (by kernel_rfl) (fun _ _ _ _ _ h => h) ?_
    simp only [segs, nths, nth, List.append_nil, List.nil_append, List.cons_append, List.map_cons, List.map_nil]
    refine seg_reads (fun _ h => by (show sat W [cel b 55 [.slice (some ⟨g, 0, none⟩) n p9]] _; refine sb_from ?_ h; repeat constructor)) ?_; intro X f hne hf hcl; (try simp only [Act.put, List.setIfInBounds_toArray, List.set_cons_succ, List.set_cons_zero]); (repeat ((first | ((with_reducible apply ldq (fun x => (hf x).b0)); exact rfl; exact rfl; exact rfl; exact rfl; kernel_rfl) | ((with_reducible apply ldq (fun x => (hf x).b1)); exact rfl; exact rfl; exact rfl; exact rfl; kernel_rfl) | go_big_quiet_step (fail)); (try simp only [Act.put, List.setIfInBounds_toArray, List.set_cons_succ, List.set_cons_zero]))); refine wpQuiet_nil ?_; clear hcl hf hne hs f X; intro w hs
    go_wp2_with (first | (go_at_call 41; refine (held41o (by apply sk_from (hs := hs); repeat constructor)).mono ?_; clear hs; rintro e w ⟨rfl, hs⟩; rw [HF1.out]) | (go_at_call 45; refine (contains45 S2.out hn0 (by refine sb_from ?_ hs; repeat constructor)).mono ?_; clear hs; rintro e w ⟨rfl, hs⟩) | ((with_reducible refine isl ?_); first | ((with_reducible refine wrap hs ?_); clear hs; intro w hs) | ((with_reducible refine wrapn hs ?_); clear hs; intro w hs) | ((with_reducible refine wrapd hs ?_); clear hs; intro w hs)))
    (first | refine seg_on hs (fun _ h => h) ?_ ?_ | refine seg_on hs.made (fun _ h => h) ?_ ?_ | refine seg_on hs.drew (fun _ h => h) ?_ ?_ | refine seg_on hs.drew.made (fun _ h => h) ?_ ?_ | refine seg_on (hs.drewN _) (fun _ h => h) ?_ ?_)
    · exact fun _ h => by (show sat W [cel b 55 [.slice (some ⟨g, 0, none⟩) n p9]] _; refine sb_from ?_ h; repeat constructor)
    clear hs; intro hs
    refine seg_reads (fun _ h => by (show sat W [cel b 55 [.slice (some ⟨g, 0, none⟩) n p9]] _; refine sb_from ?_ h; repeat constructor)) ?_; intro X f hne hf hcl; (try simp only [Act.put, List.setIfInBounds_toArray, List.set_cons_succ, List.set_cons_zero]); (repeat ((first | ((with_reducible apply ldq (fun x => (hf x).b0)); exact rfl; exact rfl; exact rfl; exact rfl; kernel_rfl) | ((with_reducible apply ldq (fun x => (hf x).b1)); exact rfl; exact rfl; exact rfl; exact rfl; kernel_rfl) | go_big_quiet_step (fail)); (try simp only [Act.put, List.setIfInBounds_toArray, List.set_cons_succ, List.set_cons_zero]))); refine wpQuiet_nil ?_; clear hcl hf hne hs f X; intro w hs
    go_wp2_with (first | (go_at_call 41; refine (held41o (by apply sk_from (hs := hs); repeat constructor)).mono ?_; clear hs; rintro e w ⟨rfl, hs⟩; rw [HF1.out]) | (go_at_call 45; refine (contains45 S2.out hn0 (by refine sb_from ?_ hs; repeat constructor)).mono ?_; clear hs; rintro e w ⟨rfl, hs⟩) | ((with_reducible refine isl ?_); first | ((with_reducible refine wrap hs ?_); clear hs; intro w hs) | ((with_reducible refine wrapn hs ?_); clear hs; intro w hs) | ((with_reducible refine wrapd hs ?_); clear hs; intro w hs)))
    (first | refine seg_on hs (fun _ h => h) ?_ ?_ | refine seg_on hs.made (fun _ h => h) ?_ ?_ | refine seg_on hs.drew (fun _ h => h) ?_ ?_ | refine seg_on hs.drew.made (fun _ h => h) ?_ ?_ | refine seg_on (hs.drewN _) (fun _ h => h) ?_ ?_)
    · exact fun _ h => by (show sat W [cel b 55 [.slice (some ⟨g, 0, none⟩) n p9]] _; refine sb_from ?_ h; repeat constructor)
    clear hs; intro hs
    refine seg_last (fun _ h => by (show sat W [cel b 55 [.slice (some ⟨g, 0, none⟩) n p9]] _; refine sb_from ?_ h; repeat constructor)) ?_; intro X f hne hf hcl; (try simp only [Act.put, List.setIfInBounds_toArray, List.set_cons_succ, List.set_cons_zero]); (repeat ((first | ((with_reducible apply ldq (fun x => (hf x).b0)); exact rfl; exact rfl; exact rfl; exact rfl; kernel_rfl) | ((with_reducible apply ldq (fun x => (hf x).b1)); exact rfl; exact rfl; exact rfl; exact rfl; kernel_rfl) | go_big_quiet_step (fail)); (try simp only [Act.put, List.setIfInBounds_toArray, List.set_cons_succ, List.set_cons_zero]))); refine wpQuiet_nil ?_; clear hcl hf hne hs f X; intro w hs
    go_wp2_with fail
    go_ret
    refine ⟨ret_bool ?_, ?_⟩
    · exact (HRES.out _ rfl).symm
    · have h6 := rw_close (T := 55) (b := b) HP.out.1 (by refine sb_from ?_ hs; repeat constructor)
      rw [HP.out.2] at h6
      exact h6
end Go.Proofs.Yteoeeiinngpogaa
