import Derived.Test.YtkldbppldomjhaaE2
import Derived.Test.YtkldbppldomjhaaSp
namespace Go.Proofs.Ytkldbppldomjhaa
open Go.RowKit Go.Mem Go.Typed
variable {W w : World} {H : List HProp}
theorem pf_ty {g : Nat → One} {f n : Nat} {life now : Int} {b : Nat} (hs : sat W (cel b 63 (tyL g f n life now) :: H) w) : sat W [pf b [(129, .int .i64 n), (130, .int .i64 life)]] w :=
  sat.only (H := [_]) (G := H) (hs.pf _ fun p hp => by
    rcases List.mem_cons.1 hp with rfl | hp
    · exact ty_n
    · rcases List.mem_cons.1 hp with rfl | hp
      · exact ty_life
      · cases hp)
theorem spl_one {g : Nat → One} {f n : Nat} {life now : Int} {i : Nat} (h : i < 64) (r z : Int) : spl (tyL g f n life now) (i * 2) [.int .i32 r, .int .i64 z] = tyL (upd g i ⟨r, z⟩) f n life now := by simp only [spl]; exact set_one h ⟨r, z⟩
def push (q : List One) (x : One) : List One := (if q.length = 64 then q.drop 1 else q) ++ [x]
attribute [local irreducible] World.setCell World.setCells World.alloc World.drew World.drewN Calls sat cel own blk old wpQuiet wpList tyL ringC
variable {g : Nat → One} {f n : Nat} {life now : Int} {b : Nat}
theorem none_s (hl : 0 < life) (hs : sat W (cel b 63 (tyL g f n life now) :: H) w) : Calls Try.prog 23 #[.pointer (some ⟨b, 0, none⟩)] w fun e w' => e = .returned (.bool false) ∧ sat W (cel b 63 (tyL g f n life now) :: H) w' :=
  (none13 hl hs).mono fun _ _ ⟨h, k, e⟩ => ⟨h, e ▸ hs.drewN k⟩
theorem at_s {i : Nat} {j : Int} (hj : j = i) (hf : f < 64) (hi : i < 64) (hs : sat W (cel b 63 (tyL g f n life now) :: H) w) : Calls Try.prog 25 #[.pointer (some ⟨b, 0, none⟩), .int .i64 j] w fun e w' => e = .returned (.pointer (some ⟨b, (f + i) % 64 * 2, none⟩)) ∧ sat W (cel b 63 (tyL g f n life now) :: H) w' := by
  subst hj
  exact (at15 i hf hi hs).mono fun _ _ ⟨h, k, e⟩ => ⟨h, e ▸ hs.drewN k⟩
/-- Type, where there is room. -/
theorem put_room (r t : Int) (hl : 0 < life) (hl2 : life ≤ 1000) (h0 : 0 ≤ now) (h1 : now ≤ 1099511627776) (hf : f < 64) (hn : n < 64) (hs : sat W (cel b 63 (tyL g f n life now) :: H) w) : Calls Try.prog 22 #[.pointer (some ⟨b, 0, none⟩), .int .i32 r, .int .i64 t] w fun e w' => e = .returned (.tuple #[]) ∧ sat W (cel b 63 (tyL (upd g ((f + n) % 64) ⟨r, tick now t + life⟩) f (n + 1) life (tick now t)) :: H) w' := by
  have ht0 : 0 ≤ tick now t := by unfold tick; omega
  have ht1 : tick now t ≤ 1099511627776 := by unfold tick; omega
  have b0 : ((n : Int) == 64) = false := beq_no (by omega)
  generalize htk : tick now t = tk at ht0 ht1 ⊢
  have HT := Lib.hid htk
  clear htk
  go_enter Try.func22, Try.ntmps22
  go_upto_region 4 with (first | (go_at_call 23; refine (none_s hl hs).mono ?_; clear hs; rintro e w ⟨rfl, hs⟩) | ((with_reducible refine isl ?_); first | ((with_reducible apply ld hs); exact rfl; exact rfl; exact rfl; exact ty_n; kernel_rfl) | ((with_reducible apply st hs); exact rfl; exact rfl; exact rfl; exact rfl; exact rfl; (rw [ty_n]; rfl); kernel_rfl; exact rfl; clear hs; intro w hs; rw [set_n _ (n + 1) (by omega)] at hs) | ((with_reducible refine wrap hs ?_); clear hs; intro w hs) | ((with_reducible refine wrapn hs ?_); clear hs; intro w hs) | ((with_reducible refine wrapd hs ?_); clear hs; intro w hs)))
  refine region_mix [([0, 1, 2, 3, 4, 5, 7, 8, 9, 11, 12, 13, 14], [6]), ([], [10]), ([15, 16, 17], [18])] [] hs (fun _ h => by exact pf_ty h) (by kernel_rfl) (by kernel_rfl) (fun _ _ _ _ _ h => h) ?_
  simp only [segs, nths, nth, List.append_nil, List.nil_append, List.cons_append, List.map_cons, List.map_nil]
  refine seg_reads (fun _ h => by exact pf_ty h) ?_; intro X f hne hf hcl; (try simp only [Act.put, List.setIfInBounds_toArray, List.set_cons_succ, List.set_cons_zero]); (repeat ((first | ((with_reducible apply ldpq (fun x => (hf x).b0)); exact rfl; exact rfl; exact rfl; (first | exact List.mem_cons_self | exact List.mem_cons_of_mem _ (List.mem_cons_self)); kernel_rfl) | go_big_quiet_step (fail)); (try simp only [Act.put, List.setIfInBounds_toArray, List.set_cons_succ, List.set_cons_zero]))); refine wpQuiet_nil ?_; clear hcl hf hne hs f X; intro w hs
  go_wp2_with (first | (go_at_call 25; refine (at_s (i := n) (by omega) hf (by omega) hs).mono ?_; clear hs; rintro e w ⟨rfl, hs⟩) | (go_at_call 24; refine (tick14 t hs).mono ?_; clear hs; rintro e w ⟨rfl, hs⟩; rw [HT.out] at hs ⊢) | ((with_reducible refine isl ?_); first | ((with_reducible apply sts hs); exact rfl; exact rfl; exact rfl; exact rfl; exact row34; (simp [tyL_len]; omega); exact rfl; exact rfl; clear hs; intro w hs; rw [spl_one (by omega)] at hs) | ((with_reducible refine wrap hs ?_); clear hs; intro w hs) | ((with_reducible refine wrapn hs ?_); clear hs; intro w hs) | ((with_reducible refine wrapd hs ?_); clear hs; intro w hs)))
  (first | refine seg_on hs (fun _ h => h) ?_ ?_ | refine seg_on hs.made (fun _ h => h) ?_ ?_ | refine seg_on hs.drew (fun _ h => h) ?_ ?_ | refine seg_on hs.drew.made (fun _ h => h) ?_ ?_ | refine seg_on (hs.drewN _) (fun _ h => h) ?_ ?_)
  · exact fun _ h => by exact pf_ty h
  clear hs; intro hs
  refine seg_reads (fun _ h => by exact pf_ty h) ?_; intro X f hne hf hcl; (try simp only [Act.put, List.setIfInBounds_toArray, List.set_cons_succ, List.set_cons_zero]); (repeat ((first | ((with_reducible apply ldpq (fun x => (hf x).b0)); exact rfl; exact rfl; exact rfl; (first | exact List.mem_cons_self | exact List.mem_cons_of_mem _ (List.mem_cons_self)); kernel_rfl) | go_big_quiet_step (fail)); (try simp only [Act.put, List.setIfInBounds_toArray, List.set_cons_succ, List.set_cons_zero]))); refine wpQuiet_nil ?_; clear hcl hf hne hs f X; intro w hs
  go_wp2_with (first | (go_at_call 25; refine (at_s (i := n) (by omega) hf (by omega) hs).mono ?_; clear hs; rintro e w ⟨rfl, hs⟩) | (go_at_call 24; refine (tick14 t hs).mono ?_; clear hs; rintro e w ⟨rfl, hs⟩; rw [HT.out] at hs ⊢) | ((with_reducible refine isl ?_); first | ((with_reducible apply sts hs); exact rfl; exact rfl; exact rfl; exact rfl; exact row34; (simp [tyL_len]; omega); exact rfl; exact rfl; clear hs; intro w hs; rw [spl_one (by omega)] at hs) | ((with_reducible refine wrap hs ?_); clear hs; intro w hs) | ((with_reducible refine wrapn hs ?_); clear hs; intro w hs) | ((with_reducible refine wrapd hs ?_); clear hs; intro w hs)))
  (first | refine seg_on hs (fun _ h => h) ?_ ?_ | refine seg_on hs.made (fun _ h => h) ?_ ?_ | refine seg_on hs.drew (fun _ h => h) ?_ ?_ | refine seg_on hs.drew.made (fun _ h => h) ?_ ?_ | refine seg_on (hs.drewN _) (fun _ h => h) ?_ ?_)
  · exact fun _ h => by exact pf_ty h
  clear hs; intro hs
  refine seg_reads (fun _ h => by exact pf_ty h) ?_; intro X f hne hf hcl; (try simp only [Act.put, List.setIfInBounds_toArray, List.set_cons_succ, List.set_cons_zero]); (repeat ((first | ((with_reducible apply ldpq (fun x => (hf x).b0)); exact rfl; exact rfl; exact rfl; (first | exact List.mem_cons_self | exact List.mem_cons_of_mem _ (List.mem_cons_self)); kernel_rfl) | go_big_quiet_step (fail)); (try simp only [Act.put, List.setIfInBounds_toArray, List.set_cons_succ, List.set_cons_zero]))); refine wpQuiet_nil ?_; clear hcl hf hne hs f X; intro w hs
  go_wp2_with (first | (go_at_call 25; refine (at_s (i := n) (by omega) hf (by omega) hs).mono ?_; clear hs; rintro e w ⟨rfl, hs⟩) | (go_at_call 24; refine (tick14 t hs).mono ?_; clear hs; rintro e w ⟨rfl, hs⟩; rw [HT.out] at hs ⊢) | ((with_reducible refine isl ?_); first | ((with_reducible apply sts hs); exact rfl; exact rfl; exact rfl; exact rfl; exact row34; (simp [tyL_len]; omega); exact rfl; exact rfl; clear hs; intro w hs; rw [spl_one (by omega)] at hs) | ((with_reducible refine wrap hs ?_); clear hs; intro w hs) | ((with_reducible refine wrapn hs ?_); clear hs; intro w hs) | ((with_reducible refine wrapd hs ?_); clear hs; intro w hs)))
  (first | refine seg_on hs (fun _ h => h) ?_ ?_ | refine seg_on hs.made (fun _ h => h) ?_ ?_ | refine seg_on hs.drew (fun _ h => h) ?_ ?_ | refine seg_on hs.drew.made (fun _ h => h) ?_ ?_ | refine seg_on (hs.drewN _) (fun _ h => h) ?_ ?_)
  · exact fun _ h => by exact pf_ty h
  clear hs; intro hs
  refine seg_last (fun _ h => by exact pf_ty h) ?_; intro X f hne hf hcl; (try simp only [Act.put, List.setIfInBounds_toArray, List.set_cons_succ, List.set_cons_zero]); (repeat ((first | ((with_reducible apply ldpq (fun x => (hf x).b0)); exact rfl; exact rfl; exact rfl; (first | exact List.mem_cons_self | exact List.mem_cons_of_mem _ (List.mem_cons_self)); kernel_rfl) | go_big_quiet_step (fail)); (try simp only [Act.put, List.setIfInBounds_toArray, List.set_cons_succ, List.set_cons_zero]))); refine wpQuiet_nil ?_; clear hcl hf hne hs f X; intro w hs
  go_wp2
  go_end0
  exact ⟨rfl, hs⟩
/-- .. where there is none. -/
theorem put_full (r t : Int) (hl : 0 < life) (hl2 : life ≤ 1000) (h0 : 0 ≤ now) (h1 : now ≤ 1099511627776) (hf : f < 64) (hn : n = 64) (hs : sat W (cel b 63 (tyL g f n life now) :: H) w) : Calls Try.prog 22 #[.pointer (some ⟨b, 0, none⟩), .int .i32 r, .int .i64 t] w fun e w' => e = .returned (.tuple #[]) ∧ sat W (cel b 63 (tyL (upd g (((f + 1) % 64 + (n - 1)) % 64) ⟨r, tick now t + life⟩) ((f + 1) % 64) (n - 1 + 1) life (tick now t)) :: H) w' := by
  have ht0 : 0 ≤ tick now t := by unfold tick; omega
  have ht1 : tick now t ≤ 1099511627776 := by unfold tick; omega
  have b0 : ((n : Int) == 64) = true := by simp [hn]
  generalize htk : tick now t = tk at ht0 ht1 ⊢
  have HT := Lib.hid htk
  clear htk
  have hn0 : 63 < n := by omega
  have hn1 : n < 65 := by omega
  obtain ⟨m, hm⟩ : ∃ m, n - 1 = m := ⟨_, rfl⟩
  obtain ⟨f1, hf1⟩ : ∃ f1, (f + 1) % 64 = f1 := ⟨_, rfl⟩
  have hm1 : m < 64 := by omega
  have hf2 : f1 < 64 := by omega
  rw [hm, hf1]
  have HM := Lib.hid hm
  have HF1 := Lib.hid hf1
  clear hm hf1 hn
  go_enter Try.func22, Try.ntmps22
  go_upto_region 4 with (first | (go_at_call 23; refine (none_s hl hs).mono ?_; clear hs; rintro e w ⟨rfl, hs⟩) | (go_at_call 26; refine (drop16 hf (by omega) (by omega) hs).mono ?_; clear hs; rintro e w ⟨rfl, hs⟩; rw [HM.out, HF1.out] at hs) | ((with_reducible refine isl ?_); first | ((with_reducible apply ld hs); exact rfl; exact rfl; exact rfl; exact ty_n; kernel_rfl) | ((with_reducible apply st hs); exact rfl; exact rfl; exact rfl; exact rfl; exact rfl; (rw [ty_n]; rfl); kernel_rfl; exact rfl; clear hs; intro w hs; rw [set_n _ (m + 1) (by omega)] at hs) | ((with_reducible refine wrap hs ?_); clear hs; intro w hs) | ((with_reducible refine wrapn hs ?_); clear hs; intro w hs) | ((with_reducible refine wrapd hs ?_); clear hs; intro w hs)))
  refine region_mix [([0, 1, 2, 3, 4, 5, 7, 8, 9, 11, 12, 13, 14], [6]), ([], [10]), ([15, 16, 17], [18])] [] hs (fun _ h => by exact pf_ty h) (by kernel_rfl) (by kernel_rfl) (fun _ _ _ _ _ h => h) ?_
  simp only [segs, nths, nth, List.append_nil, List.nil_append, List.cons_append, List.map_cons, List.map_nil]
  refine seg_reads (fun _ h => by exact pf_ty h) ?_; intro X f hne hf hcl; (try simp only [Act.put, List.setIfInBounds_toArray, List.set_cons_succ, List.set_cons_zero]); (repeat ((first | ((with_reducible apply ldpq (fun x => (hf x).b0)); exact rfl; exact rfl; exact rfl; (first | exact List.mem_cons_self | exact List.mem_cons_of_mem _ (List.mem_cons_self)); kernel_rfl) | go_big_quiet_step (fail)); (try simp only [Act.put, List.setIfInBounds_toArray, List.set_cons_succ, List.set_cons_zero]))); refine wpQuiet_nil ?_; clear hcl hf hne hs f X; intro w hs
  go_wp2_with (first | (go_at_call 25; refine (at_s (i := m) (by omega) hf2 (by omega) hs).mono ?_; clear hs; rintro e w ⟨rfl, hs⟩) | (go_at_call 24; refine (tick14 t hs).mono ?_; clear hs; rintro e w ⟨rfl, hs⟩; rw [HT.out] at hs ⊢) | ((with_reducible refine isl ?_); first | ((with_reducible apply sts hs); exact rfl; exact rfl; exact rfl; exact rfl; exact row34; (simp [tyL_len]; omega); exact rfl; exact rfl; clear hs; intro w hs; rw [spl_one (by omega)] at hs) | ((with_reducible refine wrap hs ?_); clear hs; intro w hs) | ((with_reducible refine wrapn hs ?_); clear hs; intro w hs) | ((with_reducible refine wrapd hs ?_); clear hs; intro w hs)))
  (first | refine seg_on hs (fun _ h => h) ?_ ?_ | refine seg_on hs.made (fun _ h => h) ?_ ?_ | refine seg_on hs.drew (fun _ h => h) ?_ ?_ | refine seg_on hs.drew.made (fun _ h => h) ?_ ?_ | refine seg_on (hs.drewN _) (fun _ h => h) ?_ ?_)
  · exact fun _ h => by exact pf_ty h
  clear hs; intro hs
  refine seg_reads (fun _ h => by exact pf_ty h) ?_; intro X f hne hf hcl; (try simp only [Act.put, List.setIfInBounds_toArray, List.set_cons_succ, List.set_cons_zero]); (repeat ((first | ((with_reducible apply ldpq (fun x => (hf x).b0)); exact rfl; exact rfl; exact rfl; (first | exact List.mem_cons_self | exact List.mem_cons_of_mem _ (List.mem_cons_self)); kernel_rfl) | go_big_quiet_step (fail)); (try simp only [Act.put, List.setIfInBounds_toArray, List.set_cons_succ, List.set_cons_zero]))); refine wpQuiet_nil ?_; clear hcl hf hne hs f X; intro w hs
  go_wp2_with (first | (go_at_call 25; refine (at_s (i := m) (by omega) hf2 (by omega) hs).mono ?_; clear hs; rintro e w ⟨rfl, hs⟩) | (go_at_call 24; refine (tick14 t hs).mono ?_; clear hs; rintro e w ⟨rfl, hs⟩; rw [HT.out] at hs ⊢) | ((with_reducible refine isl ?_); first | ((with_reducible apply sts hs); exact rfl; exact rfl; exact rfl; exact rfl; exact row34; (simp [tyL_len]; omega); exact rfl; exact rfl; clear hs; intro w hs; rw [spl_one (by omega)] at hs) | ((with_reducible refine wrap hs ?_); clear hs; intro w hs) | ((with_reducible refine wrapn hs ?_); clear hs; intro w hs) | ((with_reducible refine wrapd hs ?_); clear hs; intro w hs)))
  (first | refine seg_on hs (fun _ h => h) ?_ ?_ | refine seg_on hs.made (fun _ h => h) ?_ ?_ | refine seg_on hs.drew (fun _ h => h) ?_ ?_ | refine seg_on hs.drew.made (fun _ h => h) ?_ ?_ | refine seg_on (hs.drewN _) (fun _ h => h) ?_ ?_)
  · exact fun _ h => by exact pf_ty h
  clear hs; intro hs
  refine seg_reads (fun _ h => by exact pf_ty h) ?_; intro X f hne hf hcl; (try simp only [Act.put, List.setIfInBounds_toArray, List.set_cons_succ, List.set_cons_zero]); (repeat ((first | ((with_reducible apply ldpq (fun x => (hf x).b0)); exact rfl; exact rfl; exact rfl; (first | exact List.mem_cons_self | exact List.mem_cons_of_mem _ (List.mem_cons_self)); kernel_rfl) | go_big_quiet_step (fail)); (try simp only [Act.put, List.setIfInBounds_toArray, List.set_cons_succ, List.set_cons_zero]))); refine wpQuiet_nil ?_; clear hcl hf hne hs f X; intro w hs
  go_wp2_with (first | (go_at_call 25; refine (at_s (i := m) (by omega) hf2 (by omega) hs).mono ?_; clear hs; rintro e w ⟨rfl, hs⟩) | (go_at_call 24; refine (tick14 t hs).mono ?_; clear hs; rintro e w ⟨rfl, hs⟩; rw [HT.out] at hs ⊢) | ((with_reducible refine isl ?_); first | ((with_reducible apply sts hs); exact rfl; exact rfl; exact rfl; exact rfl; exact row34; (simp [tyL_len]; omega); exact rfl; exact rfl; clear hs; intro w hs; rw [spl_one (by omega)] at hs) | ((with_reducible refine wrap hs ?_); clear hs; intro w hs) | ((with_reducible refine wrapn hs ?_); clear hs; intro w hs) | ((with_reducible refine wrapd hs ?_); clear hs; intro w hs)))
  (first | refine seg_on hs (fun _ h => h) ?_ ?_ | refine seg_on hs.made (fun _ h => h) ?_ ?_ | refine seg_on hs.drew (fun _ h => h) ?_ ?_ | refine seg_on hs.drew.made (fun _ h => h) ?_ ?_ | refine seg_on (hs.drewN _) (fun _ h => h) ?_ ?_)
  · exact fun _ h => by exact pf_ty h
  clear hs; intro hs
  refine seg_last (fun _ h => by exact pf_ty h) ?_; intro X f hne hf hcl; (try simp only [Act.put, List.setIfInBounds_toArray, List.set_cons_succ, List.set_cons_zero]); (repeat ((first | ((with_reducible apply ldpq (fun x => (hf x).b0)); exact rfl; exact rfl; exact rfl; (first | exact List.mem_cons_self | exact List.mem_cons_of_mem _ (List.mem_cons_self)); kernel_rfl) | go_big_quiet_step (fail)); (try simp only [Act.put, List.setIfInBounds_toArray, List.set_cons_succ, List.set_cons_zero]))); refine wpQuiet_nil ?_; clear hcl hf hne hs f X; intro w hs
  go_wp2
  go_end0
  exact ⟨rfl, hs⟩
/-- A list: what is awaited, the life, the greatest tick. -/
def TY (W : World) (b : Nat) (q : List One) (life now : Int) (H : List HProp) (w : World) : Prop := ∃ g f n, f < 64 ∧ n ≤ 64 ∧ queue g f n = q ∧ sat W (cel b 63 (tyL g f n life now) :: H) w
theorem type9 {q : List One} (r t : Int) (hl : 0 < life) (hl2 : life ≤ 1000) (h0 : 0 ≤ now) (h1 : now ≤ 1099511627776) (hs : TY W b q life now H w) : Calls Try.prog 22 #[.pointer (some ⟨b, 0, none⟩), .int .i32 r, .int .i64 t] w fun e w' => e = .returned (.tuple #[]) ∧ TY W b (push q ⟨r, tick now t + life⟩) life (tick now t) H w' := by
  obtain ⟨g, f, n, hf, hn, rfl, hs⟩ := hs
  by_cases h : n = 64
  · refine (put_full r t hl hl2 h0 h1 hf h hs).mono fun e w' ⟨he, hs⟩ => ⟨he, _, _, _, by omega, by omega, ?_, hs⟩
    rw [queue_put _ (by omega), queue_drop (by omega)]
    unfold push
    rw [queue_len, if_pos h]
  · refine (put_room r t hl hl2 h0 h1 hf (by omega) hs).mono fun e w' ⟨he, hs⟩ => ⟨he, _, _, _, hf, by omega, ?_, hs⟩
    rw [queue_put _ (by omega)]
    unfold push
    rw [queue_len, if_neg h]
end Go.Proofs.Ytkldbppldomjhaa
