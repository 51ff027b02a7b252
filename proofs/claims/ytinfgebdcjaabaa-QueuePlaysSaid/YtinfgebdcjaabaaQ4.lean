/- Law 18: slices.Clone, slices.Delete of utterances. -/
import Derived.Test.YtinfgebdcjaabaaQ3
import Derived.Test.YtinfgebdcjaabaaSq
namespace Go.Proofs.Ytinfgebdcjaabaa
open Go.RowKit Go.Mem Go.Queue
variable {W w : World} {H : List HProp}
theorem uts_len (l : List Ut) : (uts l).length = l.length * 5 := by
  unfold uts
  rw [flat_len (size := 5) _ (by intro r hr; obtain ⟨p, _, rfl⟩ := List.mem_map.1 hr; rfl), List.length_map]
theorem uts_one {l : List Ut} : ∀ u ∈ uts l, u.oneCell' = true := by
  intro u hu
  obtain ⟨r, hr, hu⟩ := List.mem_flatten.1 hu
  obtain ⟨p, _, rfl⟩ := List.mem_map.1 hr
  simp only [utC, List.mem_cons, List.not_mem_nil, or_false] at hu
  rcases hu with rfl | rfl | rfl | rfl | rfl <;> rfl
theorem uts_append (l m : List Ut) : uts (l ++ m) = uts l ++ uts m := by simp [uts]
theorem uts_take (l : List Ut) (i : Nat) (h : i ≤ l.length) : (uts l).take (i * 5) = uts (l.take i) := by
  conv => lhs; rw [← List.take_append_drop i l, uts_append]
  have : (uts (l.take i)).length = i * 5 := by rw [uts_len, List.length_take, Nat.min_eq_left h]
  rw [← this]
  exact List.take_left
theorem uts_get {l : List Ut} {k j : Nat} {u : Ut} (h : l[k]? = some u) (hj : j < 5) : (uts l)[k * 5 + j]? = (utC u)[j]? :=
  flat_get (size := 5) (l.map utC) k j (utC u) (by intro r hr; obtain ⟨p, _, rfl⟩ := List.mem_map.1 hr; rfl) (by rw [List.getElem?_map, h]; rfl) hj
theorem uts_drop_get (l : List Ut) (k j : Nat) : (uts (l.drop k))[j]? = (uts l)[k * 5 + j]? := by
  by_cases h : k ≤ l.length
  · conv => rhs; rw [← List.take_append_drop k l, uts_append]
    have e : (uts (l.take k)).length = k * 5 := by rw [uts_len, List.length_take, Nat.min_eq_left h]
    rw [List.getElem?_append_right (by omega), e, Nat.add_sub_cancel_left]
  · rw [List.drop_eq_nil_of_le (by omega)]
    exact (List.getElem?_eq_none (l := uts l) (by rw [uts_len]; omega)).symm
theorem zero25 (w : World) : (zeroValue 25).run Try.prog w = .ok (.agg #[.int .i64 0, .string ⟨#[]⟩, .int .u64 0, .int .u64 0, .int .u8 0]) w := by
  obtain ⟨i0, hi, hz0, hz1, hz2⟩ := info_parts (show (Try.prog.info? 25).map (fun i => (i.zero, i.size, i.bytes)) = some (some (.agg #[.int .i64 0, .string ⟨#[]⟩, .int .u64 0, .int .u64 0, .int .u8 0]), 5, 48) by kernel_rfl)
  simp [zeroValue, typeInfo, hi, hz0]
theorem z25_one : ∀ u ∈ (Value.agg #[.int .i64 0, .string ⟨#[]⟩, .int .u64 0, .int .u64 0, .int .u8 0]).cells.toList, u.oneCell' = true := by
  intro u hu
  have : u ∈ [Value.int .i64 0, .string ⟨#[]⟩, .int .u64 0, .int .u64 0, .int .u8 0] := hu
  simp only [List.mem_cons, List.not_mem_nil, or_false] at this
  rcases this with rfl | rfl | rfl | rfl | rfl <;> rfl
attribute [local irreducible] World.setCell World.setCells World.alloc World.drew World.drewN Calls sat cel own blk old wpQuiet wpList qu uts
theorem clone33 {a : Option Addr} {c n : Nat} {l : List Ut} (hn : l.length = n) (hl : n ≤ 1000) (hs : sat W (own 25 5 (.slice a n c) n (uts l) :: H) w) :
    Calls Try.prog 33 #[.slice a n c] w fun e w' => ∃ a' c', e = .returned (.slice a' n c') ∧ sat W (own 25 5 (.slice a' n c') n (uts l) :: own 25 5 (.slice a n c) n (uts l) :: H) w' := by
  have HL : Hid ((uts l).length = n * 5) := Lib.hid (by rw [uts_len, hn])
  have HN := Lib.hid hn
  clear hn
  cases a with
  | none =>
    have hz := hs.own_cases.2
    obtain ⟨e1, e2⟩ : n = 0 ∧ uts l = [] := by
      rcases hz with ⟨_, h, h2⟩ | ⟨_, _, _, h, _⟩
      · exact ⟨h, h2⟩
      · cases h
    subst e1
    have hnil := Go.Lib.run_eql_slice_nil (P := Try.prog) w 34 25 none 0 c 0 0 Try.underlying34
    go_enter Try.func33, Try.ntmps33
    go_wp2
    go_ret
    exact ⟨none, 0, rfl, by have h2 := hs.own_nil 25 5; rw [e2] at h2; exact h2⟩
  | some ad =>
    obtain ⟨g, rfl⟩ : ∃ g, ad = ⟨g, 0, none⟩ := by
      rcases hs.own_cases.2 with ⟨h, _⟩ | ⟨g, _, _, h, _⟩
      · cases h
      · cases h; exact ⟨g, rfl⟩
    have hnil := Go.Lib.run_eql_slice_nil (P := Try.prog) w 34 25 (some ⟨g, 0, none⟩) n c 0 0 Try.underlying34
    go_enter Try.func33, Try.ntmps33
    go_wp2_with (first | (skip; refine appo (size := 5) (n := 0) (k := n) (m := n) (bytes := 48) (sat.cel_own0 hs) rfl rfl rfl rfl slty34 HL.out uts_one (by omega) (by unfold maxLen; omega) ?_; clear hs; intro a5 c5 w hs; rw [Nat.zero_add, List.nil_append] at hs) | ((with_reducible refine wrap hs ?_); clear hs; intro w hs))
    go_ret
    exact ⟨_, _, rfl, hs⟩
theorem delete32 {g n c i : Nat} {l : List Ut} (hn : l.length = n) (hl : n ≤ 1000) (hi : i < n) (hs : sat W (own 25 5 (.slice (some ⟨g, 0, none⟩) n c) n (uts l) :: H) w) :
    Calls Try.prog 32 #[.slice (some ⟨g, 0, none⟩) n c, .int .i64 (i : Int), .int .i64 ((i : Int) + 1)] w fun e w' => e = .returned (.slice (some ⟨g, 0, none⟩) (n - 1) c) ∧ sat W (own 25 5 (.slice (some ⟨g, 0, none⟩) (n - 1) c) (n - 1) (uts (l.eraseIdx i)) :: H) w' := by
  have hc := hs.own_len
  have HDL : Hid ((uts (l.drop (i + 1))).length = (n - i - 1) * 5) := Lib.hid (by rw [uts_len, List.length_drop, hn]; congr 1)
  have HDN : Hid (∀ w, sat W (own 25 5 (.slice (some ⟨g, 0, none⟩) n c) n (uts l) :: H) w → ∀ j u, (uts (l.drop (i + 1)))[j]? = some u → w.cell? ((⟨g, (i + 1) * 5, none⟩ : Addr).add j) = some u) := Lib.hid (fun w hs j u hu => by
    rw [uts_drop_get] at hu
    rw [add_none]
    exact hs.own_cell hu)
  have HER : Hid ((uts l).take (i * 5) ++ uts (l.drop (i + 1)) = uts (l.eraseIdx i)) := Lib.hid (by rw [uts_take l i (by omega), ← uts_append, List.eraseIdx_eq_take_drop_succ])
  have HN1 : Hid (n - 1 = i + (n - i - 1)) := Lib.hid (by omega)
  have hb : ((i : Int) == (i : Int) + 1) = false := by simp; omega
  have hi1 : (i : Int) + 1 ≤ (n : Int) := by omega
  have hi2 : (n : Int) ≤ (c : Int) := by omega
  have hcm := hc.2
  unfold maxLen at hcm
  by_cases he : i + 1 = c
  · obtain rfl : n = c := by omega
    have HDN : Hid (∀ w, sat W (own 25 5 (.slice (some ⟨g, 0, none⟩) n n) n (uts l) :: H) w → ∀ j u, (uts (l.drop (i + 1)))[j]? = some u → w.cell? ((⟨g, 0, none⟩ : Addr).add j) = some u) := Lib.hid (fun w _ j u hu => by
      have h0 := HDL.out
      rw [show n - i - 1 = 0 by omega, Nat.zero_mul] at h0
      rw [List.eq_nil_of_length_eq_zero h0] at hu
      simp at hu)
    have HDL : Hid ((uts (l.drop (i + 1))).length = 0 * 5) := Lib.hid (by rw [HDL.out, show n - i - 1 = 0 by omega])
    have HN1 : Hid (n - 1 = i) := Lib.hid (by omega)
    have hci : (n : Int) ≤ (i : Int) + 1 := by omega
    have hci2 : n - (i + 1) = 0 := by omega
    clear he
    go_enter Try.func32, Try.ntmps32
    go_upto_region 5 with fail
    refine region_mix [([0, 1, 2, 3, 4, 5], [6])] [7] hs (fun _ h => by (show sat W [] _; (refine sb_from ?_ h; repeat constructor))) (by kernel_rfl) (by kernel_rfl) (fun _ _ _ _ _ h => h) ?_
    simp only [segs, nths, nth, List.append_nil, List.nil_append, List.cons_append, List.map_cons, List.map_nil]
    refine seg_reads (fun _ h => by (show sat W [] _; (refine sb_from ?_ h; repeat constructor))) ?_; intro X f hne hf hcl; (try simp only [Act.put, List.setIfInBounds_toArray, List.set_cons_succ, List.set_cons_zero]); (repeat ((first | go_big_quiet_step (fail)); (try simp only [Act.put, List.setIfInBounds_toArray, List.set_cons_succ, List.set_cons_zero]))); refine wpQuiet_nil ?_; clear hcl hf hne hs f X; intro w hs
    go_wp2_with (first | (skip; refine cutl (size := 5) (i := i) (m := 0) (ad := ⟨g, 0, none⟩) (news := uts (l.drop (i + 1))) hs rfl rfl rfl rfl slty34 HDL.out (HDN.out _ hs) uts_one (by omega) ?_; clear hs; intro w hs; rw [HER.out] at hs) | ((with_reducible refine isl ?_); first | ((with_reducible refine wrap hs ?_); clear hs; intro w hs) | ((with_reducible refine wrapn hs ?_); clear hs; intro w hs) | ((with_reducible refine wrapd hs ?_); clear hs; intro w hs)))
    (first | refine seg_on hs (fun _ h => h) ?_ ?_ | refine seg_on hs.made (fun _ h => h) ?_ ?_ | refine seg_on hs.drew (fun _ h => h) ?_ ?_ | refine seg_on hs.drew.made (fun _ h => h) ?_ ?_ | refine seg_on (hs.drewN _) (fun _ h => h) ?_ ?_)
    · exact fun _ h => by (show sat W [] _; (refine sb_from ?_ h; repeat constructor))
    clear hs; intro hs
    refine seg_last (fun _ h => by (show sat W [] _; (refine sb_from ?_ h; repeat constructor))) ?_; intro X f hne hf hcl; (try simp only [Act.put, List.setIfInBounds_toArray, List.set_cons_succ, List.set_cons_zero]); (repeat ((first | go_big_quiet_step (fail)); (try simp only [Act.put, List.setIfInBounds_toArray, List.set_cons_succ, List.set_cons_zero]))); refine wpQuiet_nil ?_; clear hcl hf hne hs f X; intro w hs
    go_wp2_with (first | (skip; refine clrl (size := 5) hs rfl rfl rfl slty34 zero25 rfl z25_one (by omega) ?_; clear hs; intro w hs))
    go_ret
    rw [HN1.out]
    exact ⟨rfl, hs⟩
  · have hi3 : (i : Int) + 1 < (c : Int) := by omega
    have HCA := Lib.hid hn
    go_enter Try.func32, Try.ntmps32
    go_upto_region 5 with fail
    refine region_mix [([0, 1, 2, 3, 4, 5], [6])] [7] hs (fun _ h => by (show sat W [] _; (refine sb_from ?_ h; repeat constructor))) (by kernel_rfl) (by kernel_rfl) (fun _ _ _ _ _ h => h) ?_
    simp only [segs, nths, nth, List.append_nil, List.nil_append, List.cons_append, List.map_cons, List.map_nil]
    refine seg_reads (fun _ h => by (show sat W [] _; (refine sb_from ?_ h; repeat constructor))) ?_; intro X f hne hf hcl; (try simp only [Act.put, List.setIfInBounds_toArray, List.set_cons_succ, List.set_cons_zero]); (repeat ((first | go_big_quiet_step (fail)); (try simp only [Act.put, List.setIfInBounds_toArray, List.set_cons_succ, List.set_cons_zero]))); refine wpQuiet_nil ?_; clear hcl hf hne hs f X; intro w hs
    go_wp2_with (first | (skip; refine cutl (size := 5) (i := i) (m := n - i - 1) (ad := ⟨g, (i + 1) * 5, none⟩) (news := uts (l.drop (i + 1))) hs rfl rfl rfl rfl slty34 HDL.out (HDN.out _ hs) uts_one (by omega) ?_; clear hs; intro w hs; rw [HER.out] at hs) | ((with_reducible refine isl ?_); first | ((with_reducible refine wrap hs ?_); clear hs; intro w hs) | ((with_reducible refine wrapn hs ?_); clear hs; intro w hs) | ((with_reducible refine wrapd hs ?_); clear hs; intro w hs)))
    (first | refine seg_on hs (fun _ h => h) ?_ ?_ | refine seg_on hs.made (fun _ h => h) ?_ ?_ | refine seg_on hs.drew (fun _ h => h) ?_ ?_ | refine seg_on hs.drew.made (fun _ h => h) ?_ ?_ | refine seg_on (hs.drewN _) (fun _ h => h) ?_ ?_)
    · exact fun _ h => by (show sat W [] _; (refine sb_from ?_ h; repeat constructor))
    clear hs; intro hs
    refine seg_last (fun _ h => by (show sat W [] _; (refine sb_from ?_ h; repeat constructor))) ?_; intro X f hne hf hcl; (try simp only [Act.put, List.setIfInBounds_toArray, List.set_cons_succ, List.set_cons_zero]); (repeat ((first | go_big_quiet_step (fail)); (try simp only [Act.put, List.setIfInBounds_toArray, List.set_cons_succ, List.set_cons_zero]))); refine wpQuiet_nil ?_; clear hcl hf hne hs f X; intro w hs
    go_wp2_with (first | (skip; refine clrl (size := 5) hs rfl rfl rfl slty34 zero25 rfl z25_one (by omega) ?_; clear hs; intro w hs))
    go_ret
    rw [HN1.out]
    exact ⟨rfl, hs⟩
end Go.Proofs.Ytinfgebdcjaabaa
