/- Law 6: Erase. -/
import Derived.Test.YtdcagaaanbgcoaaV6
namespace Go.Proofs.Ytdcagaaanbgcoaa
open Go.RowKit Go.Mem Go.Cells
variable {W w : World} {H : List HProp}
def eraseG (l : List C) (f t : Int) (a : At) : List C :=
  let f0 := (min (max f 0) (l.length : Int)).toNat
  let t0 := (min (max t 0) (l.length : Int)).toNat
  if t0 ≤ f0 then l
  else
    let l2 := partC (partC l f0) t0
    l2.take f0 ++ List.replicate (t0 - f0) (bC (grC a)) ++ l2.drop t0
theorem erase_set {α : Type} {ps : List α} {f i : Nat} {B : α} (h1 : f ≤ i) (h2 : i < ps.length) : (ps.take f ++ List.replicate (i - f) B ++ ps.drop i).set i B = ps.take f ++ List.replicate (i + 1 - f) B ++ ps.drop (i + 1) := by
  have e : (ps.take f ++ List.replicate (i - f) B).length = i := by
    rw [List.length_append, List.length_take, List.length_replicate]
    omega
  rw [List.drop_eq_getElem_cons h2]
  have h := set_app_cons2 (ps.take f ++ List.replicate (i - f) B) ps[i] B (ps.drop (i + 1))
  rw [e] at h
  rw [h, show i + 1 - f = (i - f) + 1 from by omega, List.replicate_succ']
  simp
attribute [local irreducible] rowTy oneTy World.setCell World.setCells World.alloc World.drew World.drewN Calls sat cel own blk old wpQuiet wpList cmb cmb1 rwP cls rws partC
theorem erase21 {b n : Nat} {l : List C} {f t : Int} {at_ : At} (hn : l.length = n) (h0 : 0 < n) (h512 : n ≤ 1000) (hs : sat W (rwP 96 b l :: H) w) :
    Calls Try.prog 83 #[.pointer (some ⟨b, 0, none⟩), .int .i64 f, .int .i64 t, aV at_] w fun e w' => e = .returned (.int .i64 0) ∧ sat W (rwP 96 b (eraseG l f t at_) :: H) w' := by
  obtain ⟨f0, hf0⟩ : ∃ f0 : Nat, (f0 : Int) = min (max f 0) (n : Int) := ⟨(min (max f 0) (n : Int)).toNat, by omega⟩
  obtain ⟨t0, ht0⟩ : ∃ t0 : Nat, (t0 : Int) = min (max t 0) (n : Int) := ⟨(min (max t 0) (n : Int)).toNat, by omega⟩
  have HF1 := Lib.hid hf0.symm
  have HT1 := Lib.hid ht0.symm
  have HN0 := Lib.hid hn
  have ht1 : t0 ≤ n := by omega
  have ef : (min (max f 0) (l.length : Int)).toNat = f0 := by rw [hn]; omega
  have et : (min (max t 0) (l.length : Int)).toNat = t0 := by rw [hn]; omega
  by_cases hft : t0 ≤ f0
  · have HG : Hid (eraseG l f t at_ = l) := Lib.hid (by unfold eraseG; rw [ef, et]; simp only; rw [if_pos hft])
    have g1 : decide ((t0 : Int) ≤ (f0 : Int)) = true := decide_eq_true (by omega)
    clear hf0 ht0 hn ef et
    go_enter Try.func83, Try.ntmps83
    go_wp2_with (first | (go_at_call 58; refine (ready40 HN0.out h0 (by apply sk_from (hs := hs); repeat constructor)).mono ?_; clear hs; rintro e w ⟨rfl, hs⟩) | (go_at_call 90; refine (held41 HN0.out (by apply sk_from (hs := hs); repeat constructor)).mono ?_; clear hs; rintro e w ⟨rfl, hs⟩; (first | rw [HF1.out] | rw [HT1.out])) | ((with_reducible refine isl ?_); first | ((with_reducible apply ld hs.b0); exact rfl; exact rfl; exact rfl; exact rfl; kernel_rfl) | ((with_reducible apply ld hs.b1); exact rfl; exact rfl; exact rfl; exact rfl; kernel_rfl) | ((with_reducible apply st hs.b0); exact rfl; exact rfl; exact rfl; exact rfl; exact rfl; exact rfl; kernel_rfl; exact rfl; clear hs; intro w hs) | ((with_reducible apply st hs.b1); exact rfl; exact rfl; exact rfl; exact rfl; exact rfl; exact rfl; kernel_rfl; exact rfl; clear hs; intro w hs) | ((with_reducible apply stc hs.b0); exact rfl; exact rfl; exact rfl; exact rfl; exact rfl; kernel_rfl; exact rfl; clear hs; intro w hs) | ((with_reducible apply stc hs.b1); exact rfl; exact rfl; exact rfl; exact rfl; exact rfl; kernel_rfl; exact rfl; clear hs; intro w hs) | ((with_reducible refine wrap hs ?_); clear hs; (first | generalize w.heap.size = z4); intro w hs) | ((with_reducible refine wrap hs ?_); clear hs; intro w hs) | ((with_reducible refine wrapn hs ?_); clear hs; intro w hs) | ((with_reducible refine wrapd hs ?_); clear hs; intro w hs)))
    go_ret
    exact ⟨rfl, by rw [HG.out]; refine sb_from ?_ hs; repeat constructor⟩
  · obtain ⟨l1, hl1⟩ : ∃ l1, partC l (f0 : Int) = l1 := ⟨_, rfl⟩
    obtain ⟨l2, hl2⟩ : ∃ l2, partC l1 (t0 : Int) = l2 := ⟨_, rfl⟩
    have HN1 : Hid (l1.length = n) := Lib.hid (by rw [← hl1, partC_length, hn])
    have HN2 : Hid (l2.length = n) := Lib.hid (by rw [← hl2, partC_length, HN1.out])
    have HL1 := Lib.hid hl1
    have HL2 := Lib.hid hl2
    have HG : Hid (eraseG l f t at_ = l2.take f0 ++ List.replicate (t0 - f0) (bC (grC at_)) ++ l2.drop t0) := Lib.hid (by unfold eraseG; rw [ef, et]; simp only; rw [if_neg hft, hl1, hl2])
    have g1 : decide ((t0 : Int) ≤ (f0 : Int)) = false := decide_eq_false (by omega)
    have hft2 : f0 < t0 := by omega
    clear hf0 ht0 hn ef et hl1 hl2
    go_enter Try.func83, Try.ntmps83
    go_wp2_with (first | (go_at_call 58; refine (ready40 HN0.out h0 (by apply sk_from (hs := hs); repeat constructor)).mono ?_; clear hs; rintro e w ⟨rfl, hs⟩) | (go_at_call 90; refine (held41 HN0.out (by apply sk_from (hs := hs); repeat constructor)).mono ?_; clear hs; rintro e w ⟨rfl, hs⟩; (first | rw [HF1.out] | rw [HT1.out])) | (go_at_call 75; refine (part42 HN0.out h512 (by apply sk_from (hs := hs); repeat constructor)).mono ?_; clear hs; rintro e w ⟨rfl, hs⟩; rw [HL1.out] at hs) | (go_at_call 75; refine (part42 HN1.out h512 (by apply sk_from (hs := hs); repeat constructor)).mono ?_; clear hs; rintro e w ⟨rfl, hs⟩; rw [HL2.out] at hs) | ((with_reducible refine isl ?_); first | ((with_reducible apply ld hs.b0); exact rfl; exact rfl; exact rfl; exact rfl; kernel_rfl) | ((with_reducible apply ld hs.b1); exact rfl; exact rfl; exact rfl; exact rfl; kernel_rfl) | ((with_reducible apply st hs.b0); exact rfl; exact rfl; exact rfl; exact rfl; exact rfl; exact rfl; kernel_rfl; exact rfl; clear hs; intro w hs) | ((with_reducible apply st hs.b1); exact rfl; exact rfl; exact rfl; exact rfl; exact rfl; exact rfl; kernel_rfl; exact rfl; clear hs; intro w hs) | ((with_reducible apply stc hs.b0); exact rfl; exact rfl; exact rfl; exact rfl; exact rfl; kernel_rfl; exact rfl; clear hs; intro w hs) | ((with_reducible apply stc hs.b1); exact rfl; exact rfl; exact rfl; exact rfl; exact rfl; kernel_rfl; exact rfl; clear hs; intro w hs) | ((with_reducible refine wrap hs ?_); clear hs; (first | generalize w.heap.size = z4); intro w hs) | ((with_reducible refine wrap hs ?_); clear hs; intro w hs) | ((with_reducible refine wrapn hs ?_); clear hs; intro w hs) | ((with_reducible refine wrapd hs ?_); clear hs; intro w hs)))
    obtain ⟨ps, a9, p9, hps, hs⟩ := rw_open HN2.out hs
    have hpn : ps.length = n := by rw [← HN2.out, ← hps, List.length_map]
    obtain ⟨g, rfl⟩ := own_ptr h0 hs.b1
    have HP := Lib.hid (And.intro hpn hps)
    clear hpn hps
    go_loopw [9] (fun i wr => ∃ k : Nat, f0 ≤ k ∧ k ≤ t0 ∧ i = .int .i64 (k : Int) ∧ sat W (cel b 96 [.slice (some ⟨g, 0, none⟩) n p9] :: own 110 6 (.slice (some ⟨g, 0, none⟩) n p9) n (rws (ps.take f0 ++ List.replicate (k - f0) (PC.bl (grC at_)) ++ ps.drop k)).flatten :: cmb (ps.take f0 ++ List.replicate (k - f0) (PC.bl (grC at_)) ++ ps.drop k) :: cel z4 25 (aC at_) :: H) wr) (fun i _ => ((t0 : Int) - intOf i).toNat)
    case atStart => exact ⟨f0, Nat.le_refl _, by omega, rfl, by
      rw [Nat.sub_self, List.replicate_zero, List.append_nil, List.take_append_drop]
      refine sb_from ?_ hs; repeat constructor⟩
    case round =>
      clear hs
      obtain ⟨k, hk1, hk2, rfl, hs⟩ := hrel
      by_cases hkn : k < t0
      · have hkn3 : k < n := by omega
        have HS0 : Hid ((ps.take f0 ++ List.replicate (k - f0) (PC.bl (grC at_)) ++ ps.drop k).set k (PC.bl (grC at_)) = ps.take f0 ++ List.replicate (k + 1 - f0) (PC.bl (grC at_)) ++ ps.drop (k + 1)) := Lib.hid (erase_set hk1 (by rw [HP.out.1]; exact hkn3))
        have HL : Hid (k < (rws (ps.take f0 ++ List.replicate (k - f0) (PC.bl (grC at_)) ++ ps.drop k)).length) := Lib.hid (by rw [rws_len]; simp only [List.length_append, List.length_take, List.length_replicate, List.length_drop, HP.out.1]; omega)
        have HS : Hid ((rws (ps.take f0 ++ List.replicate (k - f0) (PC.bl (grC at_)) ++ ps.drop k)).set k (cV (bC (grC at_)) (.slice none 0 0)) = rws (ps.take f0 ++ List.replicate (k + 1 - f0) (PC.bl (grC at_)) ++ ps.drop (k + 1))) := Lib.hid (by rw [← HS0.out]; exact rws_set _ k (PC.bl (grC at_)))
        go_wp2_with fail
        refine region_mix [([0, 1, 2, 3, 4, 5], [6]), ([], [7]), ([8], [9])] [] hs (fun _ h => by (show sat W [cel b 96 [.slice (some ⟨g, 0, none⟩) n p9], cel z4 25 (aC at_)] _; refine sb_from ?_ h; repeat constructor)) (by kernel_rfl) (by kernel_rfl) (fun _ _ _ _ _ h => h) ?_
        simp only [segs, nths, nth, List.append_nil, List.nil_append, List.cons_append, List.map_cons, List.map_nil]
        refine seg_reads (fun _ h => by (show sat W [cel b 96 [.slice (some ⟨g, 0, none⟩) n p9], cel z4 25 (aC at_)] _; refine sb_from ?_ h; repeat constructor)) ?_; intro X f hne hf hcl; (try simp only [Act.put, List.setIfInBounds_toArray, List.set_cons_succ, List.set_cons_zero]); (repeat ((first | ((with_reducible apply ldsq 3 (fun x => (hf x).b0)); exact rfl; exact rfl; exact rfl; exact row33; exact rfl; exact rfl) | ((with_reducible apply ldsq 3 (fun x => (hf x).b1)); exact rfl; exact rfl; exact rfl; exact row33; exact rfl; exact rfl) | ((with_reducible apply ldq (fun x => (hf x).b0)); exact rfl; exact rfl; exact rfl; exact rfl; kernel_rfl) | ((with_reducible apply ldq (fun x => (hf x).b1)); exact rfl; exact rfl; exact rfl; exact rfl; kernel_rfl) | ((with_reducible apply ldq (fun x => (hf x).b2)); exact rfl; exact rfl; exact rfl; exact rfl; kernel_rfl) | go_big_quiet_step (fail)); (try simp only [Act.put, List.setIfInBounds_toArray, List.set_cons_succ, List.set_cons_zero]))); refine wpQuiet_nil ?_; clear hcl hf hne hs f X; intro w hs
        go_wp2_with (first | (go_at_call 91; refine (ground43 (a := at_) hs).mono ?_; clear hs; rintro e w ⟨rfl, hs⟩) | (go_at_call 67; refine (blank30 (a := grC at_) hs).mono ?_; clear hs; rintro e w ⟨rfl, hs⟩) | (first | ((with_reducible apply stor hs.b0); exact rfl; exact rfl; exact rfl; exact rfl; exact HL.out; exact rws6 _; exact row41; exact rfl; exact rfl; exact rfl; clear hs; intro w hs; rw [HS.out] at hs) | ((with_reducible apply stor hs.b1); exact rfl; exact rfl; exact rfl; exact rfl; exact HL.out; exact rws6 _; exact row41; exact rfl; exact rfl; exact rfl; clear hs; intro w hs; rw [HS.out] at hs) | ((with_reducible apply stor hs.b2); exact rfl; exact rfl; exact rfl; exact rfl; exact HL.out; exact rws6 _; exact row41; exact rfl; exact rfl; exact rfl; clear hs; intro w hs; rw [HS.out] at hs) | ((with_reducible apply stor hs.b3); exact rfl; exact rfl; exact rfl; exact rfl; exact HL.out; exact rws6 _; exact row41; exact rfl; exact rfl; exact rfl; clear hs; intro w hs; rw [HS.out] at hs)) | ((with_reducible refine isl ?_); first | ((with_reducible apply ld hs.b0); exact rfl; exact rfl; exact rfl; exact rfl; kernel_rfl) | ((with_reducible apply st hs.b0); exact rfl; exact rfl; exact rfl; exact rfl; exact rfl; exact rfl; kernel_rfl; exact rfl; clear hs; intro w hs) | ((with_reducible apply stc hs.b0); exact rfl; exact rfl; exact rfl; exact rfl; exact rfl; kernel_rfl; exact rfl; clear hs; intro w hs) | ((with_reducible refine wrap hs ?_); clear hs; intro w hs) | ((with_reducible refine wrapn hs ?_); clear hs; intro w hs) | ((with_reducible refine wrapd hs ?_); clear hs; intro w hs)))
        (first | refine seg_on hs (fun _ h => h) ?_ ?_ | refine seg_on hs.made (fun _ h => h) ?_ ?_ | refine seg_on hs.drew (fun _ h => h) ?_ ?_ | refine seg_on hs.drew.made (fun _ h => h) ?_ ?_ | refine seg_on (hs.drewN _) (fun _ h => h) ?_ ?_)
        · exact fun _ h => by (show sat W [cel b 96 [.slice (some ⟨g, 0, none⟩) n p9], cel z4 25 (aC at_)] _; refine sb_from ?_ h; repeat constructor)
        clear hs; intro hs
        refine seg_reads (fun _ h => by (show sat W [cel b 96 [.slice (some ⟨g, 0, none⟩) n p9], cel z4 25 (aC at_)] _; refine sb_from ?_ h; repeat constructor)) ?_; intro X f hne hf hcl; (try simp only [Act.put, List.setIfInBounds_toArray, List.set_cons_succ, List.set_cons_zero]); (repeat ((first | ((with_reducible apply ldsq 3 (fun x => (hf x).b0)); exact rfl; exact rfl; exact rfl; exact row33; exact rfl; exact rfl) | ((with_reducible apply ldsq 3 (fun x => (hf x).b1)); exact rfl; exact rfl; exact rfl; exact row33; exact rfl; exact rfl) | ((with_reducible apply ldq (fun x => (hf x).b0)); exact rfl; exact rfl; exact rfl; exact rfl; kernel_rfl) | ((with_reducible apply ldq (fun x => (hf x).b1)); exact rfl; exact rfl; exact rfl; exact rfl; kernel_rfl) | ((with_reducible apply ldq (fun x => (hf x).b2)); exact rfl; exact rfl; exact rfl; exact rfl; kernel_rfl) | go_big_quiet_step (fail)); (try simp only [Act.put, List.setIfInBounds_toArray, List.set_cons_succ, List.set_cons_zero]))); refine wpQuiet_nil ?_; clear hcl hf hne hs f X; intro w hs
        go_wp2_with (first | (go_at_call 91; refine (ground43 (a := at_) hs).mono ?_; clear hs; rintro e w ⟨rfl, hs⟩) | (go_at_call 67; refine (blank30 (a := grC at_) hs).mono ?_; clear hs; rintro e w ⟨rfl, hs⟩) | (first | ((with_reducible apply stor hs.b0); exact rfl; exact rfl; exact rfl; exact rfl; exact HL.out; exact rws6 _; exact row41; exact rfl; exact rfl; exact rfl; clear hs; intro w hs; rw [HS.out] at hs) | ((with_reducible apply stor hs.b1); exact rfl; exact rfl; exact rfl; exact rfl; exact HL.out; exact rws6 _; exact row41; exact rfl; exact rfl; exact rfl; clear hs; intro w hs; rw [HS.out] at hs) | ((with_reducible apply stor hs.b2); exact rfl; exact rfl; exact rfl; exact rfl; exact HL.out; exact rws6 _; exact row41; exact rfl; exact rfl; exact rfl; clear hs; intro w hs; rw [HS.out] at hs) | ((with_reducible apply stor hs.b3); exact rfl; exact rfl; exact rfl; exact rfl; exact HL.out; exact rws6 _; exact row41; exact rfl; exact rfl; exact rfl; clear hs; intro w hs; rw [HS.out] at hs)) | ((with_reducible refine isl ?_); first | ((with_reducible apply ld hs.b0); exact rfl; exact rfl; exact rfl; exact rfl; kernel_rfl) | ((with_reducible apply st hs.b0); exact rfl; exact rfl; exact rfl; exact rfl; exact rfl; exact rfl; kernel_rfl; exact rfl; clear hs; intro w hs) | ((with_reducible apply stc hs.b0); exact rfl; exact rfl; exact rfl; exact rfl; exact rfl; kernel_rfl; exact rfl; clear hs; intro w hs) | ((with_reducible refine wrap hs ?_); clear hs; intro w hs) | ((with_reducible refine wrapn hs ?_); clear hs; intro w hs) | ((with_reducible refine wrapd hs ?_); clear hs; intro w hs)))
        (first | refine seg_on hs (fun _ h => h) ?_ ?_ | refine seg_on hs.made (fun _ h => h) ?_ ?_ | refine seg_on hs.drew (fun _ h => h) ?_ ?_ | refine seg_on hs.drew.made (fun _ h => h) ?_ ?_ | refine seg_on (hs.drewN _) (fun _ h => h) ?_ ?_)
        · exact fun _ h => by (show sat W [cel b 96 [.slice (some ⟨g, 0, none⟩) n p9], cel z4 25 (aC at_)] _; refine sb_from ?_ h; repeat constructor)
        clear hs; intro hs
        refine seg_reads (fun _ h => by (show sat W [cel b 96 [.slice (some ⟨g, 0, none⟩) n p9], cel z4 25 (aC at_)] _; refine sb_from ?_ h; repeat constructor)) ?_; intro X f hne hf hcl; (try simp only [Act.put, List.setIfInBounds_toArray, List.set_cons_succ, List.set_cons_zero]); (repeat ((first | ((with_reducible apply ldsq 3 (fun x => (hf x).b0)); exact rfl; exact rfl; exact rfl; exact row33; exact rfl; exact rfl) | ((with_reducible apply ldsq 3 (fun x => (hf x).b1)); exact rfl; exact rfl; exact rfl; exact row33; exact rfl; exact rfl) | ((with_reducible apply ldq (fun x => (hf x).b0)); exact rfl; exact rfl; exact rfl; exact rfl; kernel_rfl) | ((with_reducible apply ldq (fun x => (hf x).b1)); exact rfl; exact rfl; exact rfl; exact rfl; kernel_rfl) | ((with_reducible apply ldq (fun x => (hf x).b2)); exact rfl; exact rfl; exact rfl; exact rfl; kernel_rfl) | go_big_quiet_step (fail)); (try simp only [Act.put, List.setIfInBounds_toArray, List.set_cons_succ, List.set_cons_zero]))); refine wpQuiet_nil ?_; clear hcl hf hne hs f X; intro w hs
        go_wp2_with (first | (go_at_call 91; refine (ground43 (a := at_) hs).mono ?_; clear hs; rintro e w ⟨rfl, hs⟩) | (go_at_call 67; refine (blank30 (a := grC at_) hs).mono ?_; clear hs; rintro e w ⟨rfl, hs⟩) | (first | ((with_reducible apply stor hs.b0); exact rfl; exact rfl; exact rfl; exact rfl; exact HL.out; exact rws6 _; exact row41; exact rfl; exact rfl; exact rfl; clear hs; intro w hs; rw [HS.out] at hs) | ((with_reducible apply stor hs.b1); exact rfl; exact rfl; exact rfl; exact rfl; exact HL.out; exact rws6 _; exact row41; exact rfl; exact rfl; exact rfl; clear hs; intro w hs; rw [HS.out] at hs) | ((with_reducible apply stor hs.b2); exact rfl; exact rfl; exact rfl; exact rfl; exact HL.out; exact rws6 _; exact row41; exact rfl; exact rfl; exact rfl; clear hs; intro w hs; rw [HS.out] at hs) | ((with_reducible apply stor hs.b3); exact rfl; exact rfl; exact rfl; exact rfl; exact HL.out; exact rws6 _; exact row41; exact rfl; exact rfl; exact rfl; clear hs; intro w hs; rw [HS.out] at hs)) | ((with_reducible refine isl ?_); first | ((with_reducible apply ld hs.b0); exact rfl; exact rfl; exact rfl; exact rfl; kernel_rfl) | ((with_reducible apply st hs.b0); exact rfl; exact rfl; exact rfl; exact rfl; exact rfl; exact rfl; kernel_rfl; exact rfl; clear hs; intro w hs) | ((with_reducible apply stc hs.b0); exact rfl; exact rfl; exact rfl; exact rfl; exact rfl; kernel_rfl; exact rfl; clear hs; intro w hs) | ((with_reducible refine wrap hs ?_); clear hs; intro w hs) | ((with_reducible refine wrapn hs ?_); clear hs; intro w hs) | ((with_reducible refine wrapd hs ?_); clear hs; intro w hs)))
        (first | refine seg_on hs (fun _ h => h) ?_ ?_ | refine seg_on hs.made (fun _ h => h) ?_ ?_ | refine seg_on hs.drew (fun _ h => h) ?_ ?_ | refine seg_on hs.drew.made (fun _ h => h) ?_ ?_ | refine seg_on (hs.drewN _) (fun _ h => h) ?_ ?_)
        · exact fun _ h => by (show sat W [cel b 96 [.slice (some ⟨g, 0, none⟩) n p9], cel z4 25 (aC at_)] _; refine sb_from ?_ h; repeat constructor)
        clear hs; intro hs
        refine seg_last (fun _ h => by (show sat W [cel b 96 [.slice (some ⟨g, 0, none⟩) n p9], cel z4 25 (aC at_)] _; refine sb_from ?_ h; repeat constructor)) ?_; intro X f hne hf hcl; (try simp only [Act.put, List.setIfInBounds_toArray, List.set_cons_succ, List.set_cons_zero]); (repeat ((first | ((with_reducible apply ldsq 3 (fun x => (hf x).b0)); exact rfl; exact rfl; exact rfl; exact row33; exact rfl; exact rfl) | ((with_reducible apply ldsq 3 (fun x => (hf x).b1)); exact rfl; exact rfl; exact rfl; exact row33; exact rfl; exact rfl) | ((with_reducible apply ldq (fun x => (hf x).b0)); exact rfl; exact rfl; exact rfl; exact rfl; kernel_rfl) | ((with_reducible apply ldq (fun x => (hf x).b1)); exact rfl; exact rfl; exact rfl; exact rfl; kernel_rfl) | ((with_reducible apply ldq (fun x => (hf x).b2)); exact rfl; exact rfl; exact rfl; exact rfl; kernel_rfl) | go_big_quiet_step (fail)); (try simp only [Act.put, List.setIfInBounds_toArray, List.set_cons_succ, List.set_cons_zero]))); refine wpQuiet_nil ?_; clear hcl hf hne hs f X; intro w hs
        go_wp2_with fail
        go_roundw
        case rel =>
          refine ⟨k + 1, by omega, by omega, by go_num, ?_⟩
          have h6 : sat W (cmb (ps.take f0 ++ List.replicate (k - f0) (PC.bl (grC at_)) ++ ps.drop k) :: cel b 96 [.slice (some ⟨g, 0, none⟩) n p9] :: own 110 6 (.slice (some ⟨g, 0, none⟩) n p9) n (rws (ps.take f0 ++ List.replicate (k + 1 - f0) (PC.bl (grC at_)) ++ ps.drop (k + 1))).flatten :: cel z4 25 (aC at_) :: H) w := by refine sb_from ?_ hs; repeat constructor
          have h7 := cmb_set (i := k) (a := grC at_) h6
          rw [HS0.out] at h7
          refine sb_from ?_ h7; repeat constructor
        case measure => simp [intOf]; omega
      · have hge : ¬ (k : Int) < (t0 : Int) := by omega
        obtain rfl : k = t0 := by omega
        clear hkn
        go_wp2_with fail
        go_ret
        refine ⟨rfl, ?_⟩
        rw [HG.out]
        have h8 := rw_close (ps := ps.take f0 ++ List.replicate (k - f0) (PC.bl (grC at_)) ++ ps.drop k) (T := 96) (b := b) (n := n) (a := some ⟨g, 0, none⟩) (p := p9) (by simp only [List.length_append, List.length_take, List.length_replicate, List.length_drop, HP.out.1]; omega) hs
        simp only [List.map_append, List.map_take, List.map_drop, List.map_replicate, HP.out.2] at h8
        exact h8.swap.drop
end Go.Proofs.Ytdcagaaanbgcoaa
