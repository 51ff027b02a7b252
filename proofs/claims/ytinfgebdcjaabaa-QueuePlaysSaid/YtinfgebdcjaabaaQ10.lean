/- Law 18: Speaking, Silence, Mark. -/
import Derived.Test.YtinfgebdcjaabaaQ9
namespace Go.Proofs.Ytinfgebdcjaabaa
open Go.RowKit Go.Mem Go.Queue
variable {W w : World} {H : List HProp}
def speak (q : Qu) : Ut × Int × Bool := match q.spoken with | [] => (ut0, 0, false) | y :: _ => (y, q.words, true)
def mark (q : Qu) (n : Int) : Qu × Int := match q.spoken with
  | [] => (q, 6)
  | y :: _ => if n ≤ q.words then (q, 2) else if (wordsOf y.text : Int) < n then (q, 2) else if n = (wordsOf y.text : Int) then ({ q with words := n, spoken := [] }, 0) else ({ q with words := n }, 0)
attribute [local irreducible] World.setCell World.setCells World.alloc World.drew World.drewN Calls sat cel own blk old wpQuiet wpList qu uts gn World.rangeAt tru leastUpto bestUpto si Utf8.decode wc wst wordsOf
variable {b : Nat} {q : Qu}
theorem sp13_off {p : Option Addr} {G : List HProp} (hr : ∀ w, sat W G w → Calls Try.prog 25 #[.pointer p] w fun e w' => e = .returned (.bool false) ∧ w' = w) (hs : sat W G w) : Calls Try.prog 13 #[.pointer p] w fun e w' => e = .returned (.tuple #[utV ut0, .int .i64 0, .bool false]) ∧ sat W G w' := by
  go_enter Try.func13, Try.ntmps13
  go_upto_region 2 with (first | (go_at_call 25; refine (hr _ hs.drop).mono ?_; rintro e w3 ⟨rfl, hw3⟩; rw [hw3]; clear hw3) | ((with_reducible refine wrap hs ?_); clear hs; generalize w.heap.size = z2; intro w hs))
  go_wp2_with (first | ((with_reducible refine isl ?_); first | ((with_reducible apply stsw hs.b0); exact rfl; exact rfl; exact rfl; exact rfl; exact row25; exact rfl; exact rfl; exact rfl; clear hs; intro w hs) | ((with_reducible apply ldsw hs.b0); exact rfl; exact rfl; exact rfl; exact row25) | ((with_reducible refine wrap hs ?_); clear hs; intro w hs) | ((with_reducible refine wrapn hs ?_); clear hs; intro w hs) | ((with_reducible refine wrapd hs ?_); clear hs; intro w hs)))
  refine ret_cell_tmp2 (l := utC ut0) hs rfl rfl rfl row25 ⟨rfl, hs.drop⟩
theorem sp13_nil (hs : sat W H w) : Calls Try.prog 13 #[.pointer none] w fun e w' => e = .returned (.tuple #[utV ut0, .int .i64 0, .bool false]) ∧ sat W H w' := sp13_off (fun w _ => ready25_nil w) hs
theorem sp13_zero (h0 : q.size = 0) (hs : sat W (qu b q :: H) w) : Calls Try.prog 13 #[.pointer (some ⟨b, 0, none⟩)] w fun e w' => e = .returned (.tuple #[utV ut0, .int .i64 0, .bool false]) ∧ sat W (qu b q :: H) w' := sp13_off (fun _ hs => ready25_zero h0 hs) hs
theorem sp13_no (h0 : 0 < q.size) (hsp : q.spoken = []) (hs : sat W (qu b q :: H) w) : Calls Try.prog 13 #[.pointer (some ⟨b, 0, none⟩)] w fun e w' => e = .returned (.tuple #[utV ut0, .int .i64 0, .bool false]) ∧ sat W (qu b q :: H) w' := by
  have HR : Hid (∀ {W w : World} {H : List HProp} {A : HProp} {aW aS : Option Addr} {cW cS : Nat}, sat W (A :: cel b 60 [.int .i64 (q.size : Int), .slice aW q.waits.length cW, .slice aS 0 cS, .int .i64 q.words, .int .u64 q.last, .int .i64 q.count] :: utO aW cW q.waits :: utO aS cS [] :: H) w → Calls Try.prog 25 #[.pointer (some ⟨b, 0, none⟩)] w fun e w' => e = .returned (.bool true) ∧ w' = w) := Lib.hid fun hs => ready25 (H := _ :: _) h0 (sat.qu_close (q := q) (by unfold quL; rw [hsp]; exact hs.b3.b3.b3))
  have HQ : Hid (∀ {W w : World} {H : List HProp} {aW aS : Option Addr} {cW cS : Nat}, sat W (cel b 60 [.int .i64 (q.size : Int), .slice aW q.waits.length cW, .slice aS 0 cS, .int .i64 q.words, .int .u64 q.last, .int .i64 q.count] :: utO aW cW q.waits :: utO aS cS [] :: H) w → sat W (qu b q :: H) w) := Lib.hid fun hs => sat.qu_close (q := q) (by unfold quL; rw [hsp]; exact hs)
  obtain ⟨aW, aS, cW, cS, hs⟩ := hs.qu_open
  replace hs : sat W (cel b 60 [.int .i64 (q.size : Int), .slice aW q.waits.length cW, .slice aS 0 cS, .int .i64 q.words, .int .u64 q.last, .int .i64 q.count] :: utO aW cW q.waits :: utO aS cS [] :: H) w := by
    unfold quL at hs
    rw [hsp] at hs
    exact hs
  clear hsp
  go_enter Try.func13, Try.ntmps13
  go_upto_region 2 with (first | (go_at_call 25; refine (HR.out hs).mono ?_; rintro e w3 ⟨rfl, hw3⟩; rw [hw3]; clear hw3) | ((with_reducible refine isl ?_); first | ((with_reducible refine wrap hs ?_); clear hs; generalize w.heap.size = z2; intro w hs) | ((with_reducible apply ld hs.b0); exact rfl; exact rfl; exact rfl; exact rfl; kernel_rfl) | ((with_reducible apply ld hs.b1); exact rfl; exact rfl; exact rfl; exact rfl; kernel_rfl) | ((with_reducible apply ld hs.b2); exact rfl; exact rfl; exact rfl; exact rfl; kernel_rfl) | ((with_reducible apply st hs.b0); exact rfl; exact rfl; exact rfl; exact rfl; exact rfl; exact rfl; kernel_rfl; exact rfl; clear hs; intro w hs) | ((with_reducible apply st hs.b1); exact rfl; exact rfl; exact rfl; exact rfl; exact rfl; exact rfl; kernel_rfl; exact rfl; clear hs; intro w hs) | ((with_reducible apply st hs.b2); exact rfl; exact rfl; exact rfl; exact rfl; exact rfl; exact rfl; kernel_rfl; exact rfl; clear hs; intro w hs) | ((with_reducible apply stc hs.b0); exact rfl; exact rfl; exact rfl; exact rfl; exact rfl; kernel_rfl; exact rfl; clear hs; intro w hs) | ((with_reducible apply stc hs.b1); exact rfl; exact rfl; exact rfl; exact rfl; exact rfl; kernel_rfl; exact rfl; clear hs; intro w hs) | ((with_reducible apply stc hs.b2); exact rfl; exact rfl; exact rfl; exact rfl; exact rfl; kernel_rfl; exact rfl; clear hs; intro w hs) | ((with_reducible refine wrap hs ?_); clear hs; intro w hs) | ((with_reducible refine wrapn hs ?_); clear hs; intro w hs) | ((with_reducible refine wrapd hs ?_); clear hs; intro w hs)))
  go_wp2_with (first | ((with_reducible refine isl ?_); first | ((with_reducible apply stsw hs.b0); exact rfl; exact rfl; exact rfl; exact rfl; exact row25; exact rfl; exact rfl; exact rfl; clear hs; intro w hs) | ((with_reducible apply ldsw hs.b0); exact rfl; exact rfl; exact rfl; exact row25) | ((with_reducible refine wrap hs ?_); clear hs; intro w hs) | ((with_reducible refine wrapn hs ?_); clear hs; intro w hs) | ((with_reducible refine wrapd hs ?_); clear hs; intro w hs)))
  refine ret_cell_tmp2 (l := utC ut0) hs rfl rfl rfl row25 ⟨rfl, HQ.out hs.drop⟩
theorem sp13_yes {y : Ut} (h0 : 0 < q.size) (hsp : q.spoken = [y]) (hs : sat W (qu b q :: H) w) : Calls Try.prog 13 #[.pointer (some ⟨b, 0, none⟩)] w fun e w' => e = .returned (.tuple #[utV y, .int .i64 q.words, .bool true]) ∧ sat W (qu b q :: H) w' := by
  have HY : Hid (([y] : List Ut)[0]? = some y) := Lib.hid rfl
  have HR : Hid (∀ {W w : World} {H : List HProp} {A : HProp} {aW aS : Option Addr} {cW cS : Nat}, sat W (A :: cel b 60 [.int .i64 (q.size : Int), .slice aW q.waits.length cW, .slice aS 1 cS, .int .i64 q.words, .int .u64 q.last, .int .i64 q.count] :: utO aW cW q.waits :: own 25 5 (.slice aS 1 cS) 1 (uts [y]) :: H) w → Calls Try.prog 25 #[.pointer (some ⟨b, 0, none⟩)] w fun e w' => e = .returned (.bool true) ∧ w' = w) := Lib.hid fun hs => ready25 (H := _ :: _) h0 (sat.qu_close (q := q) (by unfold quL; rw [hsp]; exact hs.b3.b3.b3))
  have HQ : Hid (∀ {W w : World} {H : List HProp} {aW aS : Option Addr} {cW cS : Nat}, sat W (cel b 60 [.int .i64 (q.size : Int), .slice aW q.waits.length cW, .slice aS 1 cS, .int .i64 q.words, .int .u64 q.last, .int .i64 q.count] :: utO aW cW q.waits :: own 25 5 (.slice aS 1 cS) 1 (uts [y]) :: H) w → sat W (qu b q :: H) w) := Lib.hid fun hs => sat.qu_close (q := q) (by unfold quL; rw [hsp]; exact hs)
  obtain ⟨aW, aS, cW, cS, hs⟩ := hs.qu_open
  unfold quL utO at hs
  rw [hsp] at hs
  obtain ⟨g, rfl⟩ : ∃ g, aS = some ⟨g, 0, none⟩ := by
    have h1 : sat W (own 25 5 (.slice aS 1 cS) 1 (uts [y]) :: H) w := by (refine sb_from ?_ hs; repeat constructor)
    obtain ⟨g, c, e⟩ := h1.own_some Nat.zero_lt_one
    cases e
    exact ⟨g, rfl⟩
  replace hs : sat W (cel b 60 [.int .i64 (q.size : Int), .slice aW q.waits.length cW, .slice (some ⟨g, 0, none⟩) 1 cS, .int .i64 q.words, .int .u64 q.last, .int .i64 q.count] :: utO aW cW q.waits :: own 25 5 (.slice (some ⟨g, 0, none⟩) 1 cS) 1 (uts [y]) :: H) w := hs
  clear hsp
  go_enter Try.func13, Try.ntmps13
  go_upto_region 3 with (first | (go_at_call 25; refine (HR.out hs).mono ?_; rintro e w3 ⟨rfl, hw3⟩; rw [hw3]; clear hw3) | ((with_reducible refine isl ?_); first | ((with_reducible refine wrap hs ?_); clear hs; generalize w.heap.size = z2; intro w hs) | ((with_reducible apply ld hs.b0); exact rfl; exact rfl; exact rfl; exact rfl; kernel_rfl) | ((with_reducible apply ld hs.b1); exact rfl; exact rfl; exact rfl; exact rfl; kernel_rfl) | ((with_reducible apply ld hs.b2); exact rfl; exact rfl; exact rfl; exact rfl; kernel_rfl) | ((with_reducible apply st hs.b0); exact rfl; exact rfl; exact rfl; exact rfl; exact rfl; exact rfl; kernel_rfl; exact rfl; clear hs; intro w hs) | ((with_reducible apply st hs.b1); exact rfl; exact rfl; exact rfl; exact rfl; exact rfl; exact rfl; kernel_rfl; exact rfl; clear hs; intro w hs) | ((with_reducible apply st hs.b2); exact rfl; exact rfl; exact rfl; exact rfl; exact rfl; exact rfl; kernel_rfl; exact rfl; clear hs; intro w hs) | ((with_reducible apply stc hs.b0); exact rfl; exact rfl; exact rfl; exact rfl; exact rfl; kernel_rfl; exact rfl; clear hs; intro w hs) | ((with_reducible apply stc hs.b1); exact rfl; exact rfl; exact rfl; exact rfl; exact rfl; kernel_rfl; exact rfl; clear hs; intro w hs) | ((with_reducible apply stc hs.b2); exact rfl; exact rfl; exact rfl; exact rfl; exact rfl; kernel_rfl; exact rfl; clear hs; intro w hs) | ((with_reducible refine wrap hs ?_); clear hs; intro w hs) | ((with_reducible refine wrapn hs ?_); clear hs; intro w hs) | ((with_reducible refine wrapd hs ?_); clear hs; intro w hs)))
  refine region_mix [([0, 1, 2, 3, 4, 5, 6, 7, 8, 9], [10])] [11, 12] hs (fun _ h => by (show sat W [cel b 60 [.int .i64 (q.size : Int), .slice aW q.waits.length cW, .slice (some ⟨g, 0, none⟩) 1 cS, .int .i64 q.words, .int .u64 q.last, .int .i64 q.count], own 25 5 (.slice (some ⟨g, 0, none⟩) 1 cS) 1 (uts [y])] _; (refine sb_from ?_ h; repeat constructor))) (by kernel_rfl) (by kernel_rfl) (fun _ _ _ _ _ h => h) ?_
  simp only [segs, nths, nth, List.append_nil, List.nil_append, List.cons_append, List.map_cons, List.map_nil]
  refine seg_reads (fun _ h => by (show sat W [cel b 60 [.int .i64 (q.size : Int), .slice aW q.waits.length cW, .slice (some ⟨g, 0, none⟩) 1 cS, .int .i64 q.words, .int .u64 q.last, .int .i64 q.count], own 25 5 (.slice (some ⟨g, 0, none⟩) 1 cS) 1 (uts [y])] _; (refine sb_from ?_ h; repeat constructor))) ?_; intro X f hne hf hcl; (try simp only [Act.put, List.setIfInBounds_toArray, List.set_cons_succ, List.set_cons_zero]); (repeat ((first | ((with_reducible apply ldscq (cs := utC y)); exact rfl; exact rfl; exact rfl; exact (fun x => uts_range (i := 0) ((hf x).b1) HY.out); exact row25) | ((with_reducible apply ldq (fun x => (hf x).b0)); exact rfl; exact rfl; exact rfl; exact rfl; exact one34) | ((with_reducible apply ldq (fun x => (hf x).b0)); exact rfl; exact rfl; exact rfl; exact rfl; exact one3) | go_big_quiet_step (fail)); (try simp only [Act.put, List.setIfInBounds_toArray, List.set_cons_succ, List.set_cons_zero]))); refine wpQuiet_nil ?_; clear hcl hf hne hs f X; intro w hs
  go_wp2_with (first | ((with_reducible refine isl ?_); first | ((with_reducible apply stsw hs.b0); exact rfl; exact rfl; exact rfl; exact rfl; exact row25; exact rfl; exact rfl; exact rfl; clear hs; intro w hs) | ((with_reducible refine wrap hs ?_); clear hs; intro w hs) | ((with_reducible refine wrapn hs ?_); clear hs; intro w hs) | ((with_reducible refine wrapd hs ?_); clear hs; intro w hs)))
  (first | refine seg_on hs (fun _ h => h) ?_ ?_ | refine seg_on hs.made (fun _ h => h) ?_ ?_ | refine seg_on hs.drew (fun _ h => h) ?_ ?_ | refine seg_on hs.drew.made (fun _ h => h) ?_ ?_ | refine seg_on (hs.drewN _) (fun _ h => h) ?_ ?_)
  · exact fun _ h => by (show sat W [cel b 60 [.int .i64 (q.size : Int), .slice aW q.waits.length cW, .slice (some ⟨g, 0, none⟩) 1 cS, .int .i64 q.words, .int .u64 q.last, .int .i64 q.count], own 25 5 (.slice (some ⟨g, 0, none⟩) 1 cS) 1 (uts [y])] _; (refine sb_from ?_ h; repeat constructor))
  clear hs; intro hs
  refine seg_last (fun _ h => by (show sat W [cel b 60 [.int .i64 (q.size : Int), .slice aW q.waits.length cW, .slice (some ⟨g, 0, none⟩) 1 cS, .int .i64 q.words, .int .u64 q.last, .int .i64 q.count], own 25 5 (.slice (some ⟨g, 0, none⟩) 1 cS) 1 (uts [y])] _; (refine sb_from ?_ h; repeat constructor))) ?_; intro X f hne hf hcl; (try simp only [Act.put, List.setIfInBounds_toArray, List.set_cons_succ, List.set_cons_zero]); (repeat ((first | ((with_reducible apply ldscq (cs := utC y)); exact rfl; exact rfl; exact rfl; exact (fun x => uts_range (i := 0) ((hf x).b1) HY.out); exact row25) | ((with_reducible apply ldq (fun x => (hf x).b0)); exact rfl; exact rfl; exact rfl; exact rfl; exact one34) | ((with_reducible apply ldq (fun x => (hf x).b0)); exact rfl; exact rfl; exact rfl; exact rfl; exact one3) | go_big_quiet_step (fail)); (try simp only [Act.put, List.setIfInBounds_toArray, List.set_cons_succ, List.set_cons_zero]))); refine wpQuiet_nil ?_; clear hcl hf hne hs f X; intro w hs
  go_wp2_with (first | ((with_reducible refine isl ?_); first | ((with_reducible refine wrap hs ?_); clear hs; intro w hs) | ((with_reducible refine wrapn hs ?_); clear hs; intro w hs) | ((with_reducible refine wrapd hs ?_); clear hs; intro w hs)))
  refine ret_cell_tmp2 (l := utC y) hs rfl rfl rfl row25 ⟨rfl, HQ.out hs.drop⟩
theorem sil17_off {p : Option Addr} {G : List HProp} (hr : ∀ w, sat W G w → Calls Try.prog 25 #[.pointer p] w fun e w' => e = .returned (.bool false) ∧ w' = w) (hs : sat W G w) : Calls Try.prog 17 #[.pointer p] w fun e w' => e = .returned (.slice none 0 0) ∧ sat W G w' := by
  go_enter Try.func17, Try.ntmps17
  go_wp2_with (first | (go_at_call 25; refine (hr _ hs).mono ?_; rintro e w3 ⟨rfl, hw3⟩; rw [hw3]; clear hw3))
  go_ret
  exact ⟨rfl, hs⟩
theorem sil17_nil (hs : sat W H w) : Calls Try.prog 17 #[.pointer none] w fun e w' => e = .returned (.slice none 0 0) ∧ sat W H w' := sil17_off (fun w _ => ready25_nil w) hs
theorem sil17_zero (h0 : q.size = 0) (hs : sat W (qu b q :: H) w) : Calls Try.prog 17 #[.pointer (some ⟨b, 0, none⟩)] w fun e w' => e = .returned (.slice none 0 0) ∧ sat W (qu b q :: H) w' := sil17_off (fun _ hs => ready25_zero h0 hs) hs
theorem sil17 (h0 : 0 < q.size) (hq : q.waits.length ≤ 1000) (hs : sat W (qu b q :: H) w) : Calls Try.prog 17 #[.pointer (some ⟨b, 0, none⟩)] w fun e w' => ∃ a c, e = .returned (.slice a q.waits.length c) ∧ sat W (utO a c q.waits :: qu b { q with waits := [], spoken := [] } :: H) w' := by
  have hs0 := hs
  obtain ⟨aW, aS, cW, cS, hs⟩ := hs.qu_open
  have HP : Hid (∀ {W w : World} {H : List HProp} {aW : Option Addr} {cW : Nat}, sat W (cel b 60 [.int .i64 (q.size : Int), .slice aW q.waits.length cW, .slice none 0 0, .int .i64 q.words, .int .u64 q.last, .int .i64 q.count] :: utO aW cW q.waits :: H) w → Calls Try.prog 28 #[.pointer (some ⟨b, 0, none⟩), .func (.func 34) #[] #[]] w fun e w' => ∃ a c, e = .returned (.slice a q.waits.length c) ∧ sat W (utO a c q.waits :: qu b { q with waits := [], spoken := [] } :: H) w') := Lib.hid fun hs => part34_all (q := { q with spoken := [] }) hq (sat.qu_close (q := { q with spoken := [] }) (utO_nil hs).b2.b2)
  clear hq
  go_enter Try.func17, Try.ntmps17
  go_wp2_with (first | (go_at_call 25; refine (ready25 h0 hs0).mono ?_; rintro e w3 ⟨rfl, hw3⟩; rw [hw3]; clear hw3) | (go_at_call 28; refine (HP.out hs).mono ?_; clear hs; rintro e w ⟨a8, c8, rfl, hs⟩) | ((with_reducible refine isl ?_); first | ((with_reducible apply ld hs.b0); exact rfl; exact rfl; exact rfl; exact rfl; kernel_rfl) | ((with_reducible apply st hs.b0); exact rfl; exact rfl; exact rfl; exact rfl; exact rfl; exact rfl; kernel_rfl; exact rfl; clear hs; intro w hs) | ((with_reducible apply stc hs.b0); exact rfl; exact rfl; exact rfl; exact rfl; exact rfl; kernel_rfl; exact rfl; clear hs; intro w hs) | ((with_reducible refine wrap hs ?_); clear hs; intro w hs) | ((with_reducible refine wrapn hs ?_); clear hs; intro w hs) | ((with_reducible refine wrapd hs ?_); clear hs; intro w hs)))
  go_ret
  exact ⟨a8, c8, rfl, by (refine sb_from ?_ hs; repeat constructor)⟩
theorem mark18_off {p : Option Addr} {n : Int} {G : List HProp} (hr : ∀ w, sat W G w → Calls Try.prog 25 #[.pointer p] w fun e w' => e = .returned (.bool false) ∧ w' = w) (hs : sat W G w) : Calls Try.prog 18 #[.pointer p, .int .i64 n] w fun e w' => e = .returned (.int .i64 1) ∧ sat W G w' := by
  go_enter Try.func18, Try.ntmps18
  go_wp2_with (first | (go_at_call 25; refine (hr _ hs).mono ?_; rintro e w3 ⟨rfl, hw3⟩; rw [hw3]; clear hw3))
  go_ret
  exact ⟨rfl, hs⟩
theorem mark18_nil {n : Int} (hs : sat W H w) : Calls Try.prog 18 #[.pointer none, .int .i64 n] w fun e w' => e = .returned (.int .i64 1) ∧ sat W H w' := mark18_off (fun w _ => ready25_nil w) hs
theorem mark18_zero {n : Int} (h0 : q.size = 0) (hs : sat W (qu b q :: H) w) : Calls Try.prog 18 #[.pointer (some ⟨b, 0, none⟩), .int .i64 n] w fun e w' => e = .returned (.int .i64 1) ∧ sat W (qu b q :: H) w' := mark18_off (fun _ hs => ready25_zero h0 hs) hs
theorem mark18_none {n : Int} (h0 : 0 < q.size) (hsp : q.spoken = []) (hs : sat W (qu b q :: H) w) : Calls Try.prog 18 #[.pointer (some ⟨b, 0, none⟩), .int .i64 n] w fun e w' => e = .returned (.int .i64 6) ∧ sat W (qu b q :: H) w' := by
  have HSP := Lib.hid hsp
  clear hsp
  go_enter Try.func18, Try.ntmps18
  go_wp2_with (first | (go_at_call 25; refine (ready25 h0 hs).mono ?_; rintro e w3 ⟨rfl, hw3⟩; rw [hw3]; clear hw3) | (go_at_call 13; refine (sp13_no h0 HSP.out hs).mono ?_; clear hs; rintro e w ⟨rfl, hs⟩) | ((with_reducible refine isl ?_); first | ((with_reducible apply stsw hs.b0); exact rfl; exact rfl; exact rfl; exact rfl; exact row25; exact rfl; exact rfl; exact rfl; clear hs; intro w hs) | ((with_reducible refine wrap hs ?_); clear hs; intro w hs) | ((with_reducible refine wrapn hs ?_); clear hs; intro w hs) | ((with_reducible refine wrapd hs ?_); clear hs; intro w hs)))
  go_ret
  exact ⟨rfl, hs.drop⟩
theorem mark18_a {y : Ut} {n : Int} {wn : Nat} (h0 : 0 < q.size) (hsp : q.spoken = [y]) (hwn : wordsOf y.text = wn) (hl : y.text.size ≤ 100000) (h1 : n ≤ q.words) (hs : sat W (qu b q :: H) w) : Calls Try.prog 18 #[.pointer (some ⟨b, 0, none⟩), .int .i64 n] w fun e w' => e = .returned (.int .i64 2) ∧ sat W (qu b q :: H) w' := by
  have HSP := Lib.hid hsp
  have HWD : Hid (∀ {W w : World} {H : List HProp}, sat W H w → Calls Try.prog 35 #[.string y.text] w fun e w' => e = .returned (.int .i64 (wn : Int)) ∧ sat W H w') := Lib.hid fun hs => by rw [← hwn]; exact words35 _ hl hs
  clear hsp hl hwn
  have c1 : decide (n ≤ q.words) = true := decide_eq_true h1
  go_enter Try.func18, Try.ntmps18
  go_wp2_with (first | (go_at_call 25; refine (ready25 h0 hs).mono ?_; rintro e w3 ⟨rfl, hw3⟩; rw [hw3]; clear hw3) | (go_at_call 13; refine (sp13_yes h0 HSP.out hs).mono ?_; clear hs; rintro e w ⟨rfl, hs⟩; obtain ⟨aW, aS, cW, cS, hs⟩ := hs.qu_open) | (go_at_call 35; refine (HWD.out hs).mono ?_; clear hs; rintro e w ⟨rfl, hs⟩) | ((with_reducible refine isl ?_); first | ((with_reducible apply stsw hs.b0); exact rfl; exact rfl; exact rfl; exact rfl; exact row25; exact rfl; exact rfl; exact rfl; clear hs; intro w hs) | ((with_reducible apply ld hs.b0); exact rfl; exact rfl; exact rfl; exact rfl; kernel_rfl) | ((with_reducible apply ld hs.b1); exact rfl; exact rfl; exact rfl; exact rfl; kernel_rfl) | ((with_reducible apply ld hs.b2); exact rfl; exact rfl; exact rfl; exact rfl; kernel_rfl) | ((with_reducible apply st hs.b0); exact rfl; exact rfl; exact rfl; exact rfl; exact rfl; exact rfl; kernel_rfl; exact rfl; clear hs; intro w hs) | ((with_reducible apply st hs.b1); exact rfl; exact rfl; exact rfl; exact rfl; exact rfl; exact rfl; kernel_rfl; exact rfl; clear hs; intro w hs) | ((with_reducible apply st hs.b2); exact rfl; exact rfl; exact rfl; exact rfl; exact rfl; exact rfl; kernel_rfl; exact rfl; clear hs; intro w hs) | ((with_reducible apply stc hs.b0); exact rfl; exact rfl; exact rfl; exact rfl; exact rfl; kernel_rfl; exact rfl; clear hs; intro w hs) | ((with_reducible apply stc hs.b1); exact rfl; exact rfl; exact rfl; exact rfl; exact rfl; kernel_rfl; exact rfl; clear hs; intro w hs) | ((with_reducible apply stc hs.b2); exact rfl; exact rfl; exact rfl; exact rfl; exact rfl; kernel_rfl; exact rfl; clear hs; intro w hs) | ((with_reducible refine wrap hs ?_); clear hs; intro w hs) | ((with_reducible refine wrapn hs ?_); clear hs; intro w hs) | ((with_reducible refine wrapd hs ?_); clear hs; intro w hs)))
  go_ret
  refine ⟨rfl, ?_⟩
  skip
  refine sat.qu_close (q := q) (aW := aW) (cW := cW) (aS := aS) (cS := cS) ?_
  (refine sb_from ?_ hs; repeat constructor)
theorem mark18_b {y : Ut} {n : Int} {wn : Nat} (h0 : 0 < q.size) (hsp : q.spoken = [y]) (hwn : wordsOf y.text = wn) (hl : y.text.size ≤ 100000) (h1 : ¬ n ≤ q.words) (h2 : (wn : Int) < n) (hs : sat W (qu b q :: H) w) : Calls Try.prog 18 #[.pointer (some ⟨b, 0, none⟩), .int .i64 n] w fun e w' => e = .returned (.int .i64 2) ∧ sat W (qu b q :: H) w' := by
  have HSP := Lib.hid hsp
  have HWD : Hid (∀ {W w : World} {H : List HProp}, sat W H w → Calls Try.prog 35 #[.string y.text] w fun e w' => e = .returned (.int .i64 (wn : Int)) ∧ sat W H w') := Lib.hid fun hs => by rw [← hwn]; exact words35 _ hl hs
  clear hsp hl hwn
  have c1 : decide (n ≤ q.words) = false := decide_eq_false h1
  have c2 : decide ((wn : Int) < n) = true := decide_eq_true h2
  go_enter Try.func18, Try.ntmps18
  go_wp2_with (first | (go_at_call 25; refine (ready25 h0 hs).mono ?_; rintro e w3 ⟨rfl, hw3⟩; rw [hw3]; clear hw3) | (go_at_call 13; refine (sp13_yes h0 HSP.out hs).mono ?_; clear hs; rintro e w ⟨rfl, hs⟩; obtain ⟨aW, aS, cW, cS, hs⟩ := hs.qu_open) | (go_at_call 35; refine (HWD.out hs).mono ?_; clear hs; rintro e w ⟨rfl, hs⟩) | ((with_reducible refine isl ?_); first | ((with_reducible apply stsw hs.b0); exact rfl; exact rfl; exact rfl; exact rfl; exact row25; exact rfl; exact rfl; exact rfl; clear hs; intro w hs) | ((with_reducible apply ld hs.b0); exact rfl; exact rfl; exact rfl; exact rfl; kernel_rfl) | ((with_reducible apply ld hs.b1); exact rfl; exact rfl; exact rfl; exact rfl; kernel_rfl) | ((with_reducible apply ld hs.b2); exact rfl; exact rfl; exact rfl; exact rfl; kernel_rfl) | ((with_reducible apply st hs.b0); exact rfl; exact rfl; exact rfl; exact rfl; exact rfl; exact rfl; kernel_rfl; exact rfl; clear hs; intro w hs) | ((with_reducible apply st hs.b1); exact rfl; exact rfl; exact rfl; exact rfl; exact rfl; exact rfl; kernel_rfl; exact rfl; clear hs; intro w hs) | ((with_reducible apply st hs.b2); exact rfl; exact rfl; exact rfl; exact rfl; exact rfl; exact rfl; kernel_rfl; exact rfl; clear hs; intro w hs) | ((with_reducible apply stc hs.b0); exact rfl; exact rfl; exact rfl; exact rfl; exact rfl; kernel_rfl; exact rfl; clear hs; intro w hs) | ((with_reducible apply stc hs.b1); exact rfl; exact rfl; exact rfl; exact rfl; exact rfl; kernel_rfl; exact rfl; clear hs; intro w hs) | ((with_reducible apply stc hs.b2); exact rfl; exact rfl; exact rfl; exact rfl; exact rfl; kernel_rfl; exact rfl; clear hs; intro w hs) | ((with_reducible refine wrap hs ?_); clear hs; intro w hs) | ((with_reducible refine wrapn hs ?_); clear hs; intro w hs) | ((with_reducible refine wrapd hs ?_); clear hs; intro w hs)))
  go_ret
  refine ⟨rfl, ?_⟩
  skip
  refine sat.qu_close (q := q) (aW := aW) (cW := cW) (aS := aS) (cS := cS) ?_
  (refine sb_from ?_ hs; repeat constructor)
theorem mark18_c {y : Ut} {n : Int} {wn : Nat} (h0 : 0 < q.size) (hsp : q.spoken = [y]) (hwn : wordsOf y.text = wn) (hl : y.text.size ≤ 100000) (h1 : ¬ n ≤ q.words) (h2 : ¬ (wn : Int) < n) (h3 : n = (wn : Int)) (hs : sat W (qu b q :: H) w) : Calls Try.prog 18 #[.pointer (some ⟨b, 0, none⟩), .int .i64 n] w fun e w' => e = .returned (.int .i64 0) ∧ sat W (qu b { q with words := n, spoken := [] } :: H) w' := by
  have HSP := Lib.hid hsp
  have HWD : Hid (∀ {W w : World} {H : List HProp}, sat W H w → Calls Try.prog 35 #[.string y.text] w fun e w' => e = .returned (.int .i64 (wn : Int)) ∧ sat W H w') := Lib.hid fun hs => by rw [← hwn]; exact words35 _ hl hs
  clear hsp hl hwn
  have c1 : decide (n ≤ q.words) = false := decide_eq_false h1
  have c2 : decide ((wn : Int) < n) = false := decide_eq_false h2
  have c3 : (n == (wn : Int)) = true := by simpa using h3
  clear h3
  go_enter Try.func18, Try.ntmps18
  go_wp2_with (first | (go_at_call 25; refine (ready25 h0 hs).mono ?_; rintro e w3 ⟨rfl, hw3⟩; rw [hw3]; clear hw3) | (go_at_call 13; refine (sp13_yes h0 HSP.out hs).mono ?_; clear hs; rintro e w ⟨rfl, hs⟩; obtain ⟨aW, aS, cW, cS, hs⟩ := hs.qu_open) | (go_at_call 35; refine (HWD.out hs).mono ?_; clear hs; rintro e w ⟨rfl, hs⟩) | ((with_reducible refine isl ?_); first | ((with_reducible apply stsw hs.b0); exact rfl; exact rfl; exact rfl; exact rfl; exact row25; exact rfl; exact rfl; exact rfl; clear hs; intro w hs) | ((with_reducible apply ld hs.b0); exact rfl; exact rfl; exact rfl; exact rfl; kernel_rfl) | ((with_reducible apply ld hs.b1); exact rfl; exact rfl; exact rfl; exact rfl; kernel_rfl) | ((with_reducible apply ld hs.b2); exact rfl; exact rfl; exact rfl; exact rfl; kernel_rfl) | ((with_reducible apply st hs.b0); exact rfl; exact rfl; exact rfl; exact rfl; exact rfl; exact rfl; kernel_rfl; exact rfl; clear hs; intro w hs) | ((with_reducible apply st hs.b1); exact rfl; exact rfl; exact rfl; exact rfl; exact rfl; exact rfl; kernel_rfl; exact rfl; clear hs; intro w hs) | ((with_reducible apply st hs.b2); exact rfl; exact rfl; exact rfl; exact rfl; exact rfl; exact rfl; kernel_rfl; exact rfl; clear hs; intro w hs) | ((with_reducible apply stc hs.b0); exact rfl; exact rfl; exact rfl; exact rfl; exact rfl; kernel_rfl; exact rfl; clear hs; intro w hs) | ((with_reducible apply stc hs.b1); exact rfl; exact rfl; exact rfl; exact rfl; exact rfl; kernel_rfl; exact rfl; clear hs; intro w hs) | ((with_reducible apply stc hs.b2); exact rfl; exact rfl; exact rfl; exact rfl; exact rfl; kernel_rfl; exact rfl; clear hs; intro w hs) | ((with_reducible refine wrap hs ?_); clear hs; intro w hs) | ((with_reducible refine wrapn hs ?_); clear hs; intro w hs) | ((with_reducible refine wrapd hs ?_); clear hs; intro w hs)))
  go_ret
  refine ⟨rfl, ?_⟩
  have hs := utO_nil hs
  refine sat.qu_close (q := { q with words := n, spoken := [] }) (aW := aW) (cW := cW) (aS := none) (cS := 0) ?_
  (refine sb_from ?_ hs; repeat constructor)
theorem mark18_d {y : Ut} {n : Int} {wn : Nat} (h0 : 0 < q.size) (hsp : q.spoken = [y]) (hwn : wordsOf y.text = wn) (hl : y.text.size ≤ 100000) (h1 : ¬ n ≤ q.words) (h2 : ¬ (wn : Int) < n) (h3 : ¬ n = (wn : Int)) (hs : sat W (qu b q :: H) w) : Calls Try.prog 18 #[.pointer (some ⟨b, 0, none⟩), .int .i64 n] w fun e w' => e = .returned (.int .i64 0) ∧ sat W (qu b { q with words := n } :: H) w' := by
  have HSP := Lib.hid hsp
  have HWD : Hid (∀ {W w : World} {H : List HProp}, sat W H w → Calls Try.prog 35 #[.string y.text] w fun e w' => e = .returned (.int .i64 (wn : Int)) ∧ sat W H w') := Lib.hid fun hs => by rw [← hwn]; exact words35 _ hl hs
  clear hsp hl hwn
  have c1 : decide (n ≤ q.words) = false := decide_eq_false h1
  have c2 : decide ((wn : Int) < n) = false := decide_eq_false h2
  have c3 : (n == (wn : Int)) = false := by simpa using h3
  clear h3
  go_enter Try.func18, Try.ntmps18
  go_wp2_with (first | (go_at_call 25; refine (ready25 h0 hs).mono ?_; rintro e w3 ⟨rfl, hw3⟩; rw [hw3]; clear hw3) | (go_at_call 13; refine (sp13_yes h0 HSP.out hs).mono ?_; clear hs; rintro e w ⟨rfl, hs⟩; obtain ⟨aW, aS, cW, cS, hs⟩ := hs.qu_open) | (go_at_call 35; refine (HWD.out hs).mono ?_; clear hs; rintro e w ⟨rfl, hs⟩) | ((with_reducible refine isl ?_); first | ((with_reducible apply stsw hs.b0); exact rfl; exact rfl; exact rfl; exact rfl; exact row25; exact rfl; exact rfl; exact rfl; clear hs; intro w hs) | ((with_reducible apply ld hs.b0); exact rfl; exact rfl; exact rfl; exact rfl; kernel_rfl) | ((with_reducible apply ld hs.b1); exact rfl; exact rfl; exact rfl; exact rfl; kernel_rfl) | ((with_reducible apply ld hs.b2); exact rfl; exact rfl; exact rfl; exact rfl; kernel_rfl) | ((with_reducible apply st hs.b0); exact rfl; exact rfl; exact rfl; exact rfl; exact rfl; exact rfl; kernel_rfl; exact rfl; clear hs; intro w hs) | ((with_reducible apply st hs.b1); exact rfl; exact rfl; exact rfl; exact rfl; exact rfl; exact rfl; kernel_rfl; exact rfl; clear hs; intro w hs) | ((with_reducible apply st hs.b2); exact rfl; exact rfl; exact rfl; exact rfl; exact rfl; exact rfl; kernel_rfl; exact rfl; clear hs; intro w hs) | ((with_reducible apply stc hs.b0); exact rfl; exact rfl; exact rfl; exact rfl; exact rfl; kernel_rfl; exact rfl; clear hs; intro w hs) | ((with_reducible apply stc hs.b1); exact rfl; exact rfl; exact rfl; exact rfl; exact rfl; kernel_rfl; exact rfl; clear hs; intro w hs) | ((with_reducible apply stc hs.b2); exact rfl; exact rfl; exact rfl; exact rfl; exact rfl; kernel_rfl; exact rfl; clear hs; intro w hs) | ((with_reducible refine wrap hs ?_); clear hs; intro w hs) | ((with_reducible refine wrapn hs ?_); clear hs; intro w hs) | ((with_reducible refine wrapd hs ?_); clear hs; intro w hs)))
  go_ret
  refine ⟨rfl, ?_⟩
  skip
  refine sat.qu_close (q := { q with words := n }) (aW := aW) (cW := cW) (aS := aS) (cS := cS) ?_
  (refine sb_from ?_ hs; repeat constructor)
theorem mark18 {n : Int} (h0 : 0 < q.size) (h1 : q.spoken.length ≤ 1) (hl : ∀ y ∈ q.spoken, y.text.size ≤ 100000) (hs : sat W (qu b q :: H) w) : Calls Try.prog 18 #[.pointer (some ⟨b, 0, none⟩), .int .i64 n] w fun e w' => e = .returned (.int .i64 (mark q n).2) ∧ sat W (qu b (mark q n).1 :: H) w' := by
  match hsp : q.spoken, h1 with
  | [], _ =>
    have e : mark q n = (q, 6) := by unfold mark; rw [hsp]
    rw [e]
    exact mark18_none h0 hsp hs
  | [y], _ =>
    have hy := hl y (by rw [hsp]; exact List.mem_cons_self)
    by_cases c1 : n ≤ q.words
    · have e : mark q n = (q, 2) := by unfold mark; rw [hsp]; exact if_pos c1
      rw [e]
      exact mark18_a h0 hsp rfl hy c1 hs
    · by_cases c2 : (wordsOf y.text : Int) < n
      · have e : mark q n = (q, 2) := by unfold mark; rw [hsp]; exact (if_neg c1).trans (if_pos c2)
        rw [e]
        exact mark18_b h0 hsp rfl hy c1 c2 hs
      · by_cases c3 : n = (wordsOf y.text : Int)
        · have e : mark q n = ({ q with words := n, spoken := [] }, 0) := by unfold mark; rw [hsp]; exact (if_neg c1).trans ((if_neg c2).trans (if_pos c3))
          rw [e]
          exact mark18_c h0 hsp rfl hy c1 c2 c3 hs
        · have e : mark q n = ({ q with words := n }, 0) := by unfold mark; rw [hsp]; exact (if_neg c1).trans ((if_neg c2).trans (if_neg c3))
          rw [e]
          exact mark18_d h0 hsp rfl hy c1 c2 c3 hs
theorem sp13 (h0 : 0 < q.size) (h1 : q.spoken.length ≤ 1) (hs : sat W (qu b q :: H) w) : Calls Try.prog 13 #[.pointer (some ⟨b, 0, none⟩)] w fun e w' => e = .returned (.tuple #[utV (speak q).1, .int .i64 (speak q).2.1, .bool (speak q).2.2]) ∧ sat W (qu b q :: H) w' := by
  match hsp : q.spoken, h1 with
  | [], _ =>
    have e : speak q = (ut0, 0, false) := by unfold speak; rw [hsp]
    rw [e]
    exact sp13_no h0 hsp hs
  | [y], _ =>
    have e : speak q = (y, q.words, true) := by unfold speak; rw [hsp]
    rw [e]
    exact sp13_yes h0 hsp hs
end Go.Proofs.Ytinfgebdcjaabaa
