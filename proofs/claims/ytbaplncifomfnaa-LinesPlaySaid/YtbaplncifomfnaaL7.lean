/- Law 8: some lines; a store that is not there, or was not made. -/
import Derived.Test.YtbaplncifomfnaaL6
namespace Go.Proofs.Ytbaplncifomfnaa
open Go.RowKit Go.Mem Go.Cells Go.Lines
variable {W w : World} {H : List HProp}
/-- k lines with the ids b + 1 .. b + k. -/
def lnN (b k : Nat) (c : List C) : List LN := (List.range k).map fun j => (((b + j + 1 : Nat) : Int), c)
theorem lnN_len (b k : Nat) (c : List C) : (lnN b k c).length = k := by unfold lnN; rw [List.length_map, List.length_range]
theorem lnN_get {b k j : Nat} {c : List C} (h : j < k) : (lnN b k c)[j]? = some (((b + j + 1 : Nat) : Int), c) := by unfold lnN; rw [List.getElem?_map, List.getElem?_range h]; rfl
theorem lnN_succ (b k : Nat) (c : List C) : lnN b (k + 1) c = lnN b k c ++ [(((b + k + 1 : Nat) : Int), c)] := by unfold lnN; rw [List.range_succ, List.map_append]; rfl
theorem lnN_drop (b k : Nat) (c : List C) : (lnN b (k + 1) c).drop 1 = lnN (b + 1) k c := by
  refine List.ext_getElem? fun j => ?_
  rw [List.getElem?_drop]
  by_cases h : j < k
  · rw [lnN_get (by omega), lnN_get h]
    congr 3
    omega
  · rw [List.getElem?_eq_none (by rw [lnN_len]; omega), List.getElem?_eq_none (by rw [lnN_len]; omega)]
theorem lnN_find (b : Nat) (c : List C) (id : Int) : ∀ k : Nat, fnd (lnN b k c) id = if (b : Int) < id ∧ id ≤ b + k then id - b - 1 else -1
  | 0 => by
    show (-1 : Int) = _
    rw [if_neg (by omega)]
  | k + 1 => by
    have ih := lnN_find b c id k
    unfold fnd at ih ⊢
    rw [lnN_succ, find_snoc, lnN_len, ih]
    simp only [decide_eq_true_eq]
    by_cases h : ((b + k + 1 : Nat) : Int) = id
    · rw [if_pos h, if_pos (by omega)]
      omega
    · rw [if_neg h]
      by_cases h2 : (b : Int) < id ∧ id ≤ b + k
      · rw [if_pos h2, if_pos (by omega)]
      · rw [if_neg h2, if_neg (by omega)]
/-- The last lines of i that were pushed. -/
def lnQ (most i : Nat) (c : List C) : List LN := lnN (i - min i most) (min i most) c
theorem lnQ_len (most i : Nat) (c : List C) : (lnQ most i c).length = min i most := lnN_len _ _ _
theorem lnQ_push (most i : Nat) (c : List C) : push most (lnQ most i c) (((i + 1 : Nat) : Int), c) = lnQ most (i + 1) c := by
  unfold push lnQ
  have e : i - min i most + min i most = i := by omega
  have e2 : lnN (i - min i most) (min i most) c ++ [(((i + 1 : Nat) : Int), c)] = lnN (i - min i most) (min i most + 1) c := by rw [lnN_succ, e]
  rw [e2, lnN_len]
  by_cases h : most < min i most + 1
  · rw [if_pos h, lnN_drop]
    congr 1 <;> omega
  · rw [if_neg h]
    congr 1 <;> omega
theorem lnQ_zero (most : Nat) (c : List C) : lnQ most 0 c = [] := by
  have h := lnQ_len most 0 c
  exact List.eq_nil_of_length_eq_zero (by omega)
theorem lnQ_get {most i j : Nat} {c : List C} (h : j < min i most) : (lnQ most i c)[j]? = some (((i - min i most + j + 1 : Nat) : Int), c) := lnN_get h
theorem lnQ_find (most i : Nat) (c : List C) (id : Int) : fnd (lnQ most i c) id = if ((i - min i most : Nat) : Int) < id ∧ id ≤ ((i - min i most : Nat) : Int) + (min i most : Nat) then id - ((i - min i most : Nat) : Int) - 1 else -1 := lnN_find _ _ _ _
theorem lnQ_ok {most i : Nat} {c : List C} (h0 : 0 < c.length) (h1 : c.length ≤ 512) (ok : Ok c) : LOK (lnQ most i c) := fun x hx => by
  unfold lnQ lnN at hx
  obtain ⟨j, _, rfl⟩ := List.mem_map.1 hx
  exact ⟨h0, h1, ok⟩
theorem fresh_ok (n : Nat) (a : At) : Ok (eraseG (List.replicate n (bC At.z)) 0 n a) := (erase_eq (Ok.blanks n At.z) 0 n a).2
theorem fresh_len (n : Nat) (a : At) : (eraseG (List.replicate n (bC At.z)) 0 n a).length = n := by rw [eraseR_len _ _ _ _ (Ok.blanks n At.z), List.length_replicate]
/-- A store that is not there, or was not made. -/
def NR (v : Value) : HProp := fun h => v = .pointer none ∨ ∃ b, v = .pointer (some ⟨b, 0, none⟩) ∧ cel b 49 [.int .i64 0, .int .i64 0, .slice none 0 0, .int .i64 0] h
theorem nr_cases {v : Value} (hs : sat W (NR v :: H) w) : (v = .pointer none ∧ sat W H w) ∨ ∃ b, v = .pointer (some ⟨b, 0, none⟩) ∧ sat W (cel b 49 [.int .i64 0, .int .i64 0, .slice none 0 0, .int .i64 0] :: H) w := by
  obtain ⟨h1, h2, ap, s1, s2, hv, r⟩ := hs.2.2.2
  rcases hv with hv | ⟨b, hv, k⟩
  · exact .inl ⟨hv, hs.drop⟩
  · exact .inr ⟨b, hv, hs.1, hs.2.1, hs.2.2.1, h1, h2, ap, s1, s2, k, r⟩
theorem nr_nil (hs : sat W H w) : sat W (NR (.pointer none) :: H) w := (sat_tt hs).imp fun _ _ => .inl rfl
theorem nr_zero {b : Nat} (hs : sat W (cel b 49 [.int .i64 0, .int .i64 0, .slice none 0 0, .int .i64 0] :: H) w) : sat W (NR (.pointer (some ⟨b, 0, none⟩)) :: H) w := hs.imp fun _ h => .inr ⟨b, rfl, h⟩
attribute [local irreducible] rowTy oneTy World.setCell World.setCells World.alloc World.drew World.drewN Calls sat cel own blk old wpQuiet wpList cmb cmb1 rwP cls rws wi wh fst_ World.rangeAt lrw lnP stP lsP dsP lvs NR lnN lnQ
theorem nready27 {v : Value} (hs : sat W (NR v :: H) w) : Calls Try.prog 27 #[v] w fun e w' => e = .returned (.bool false) ∧ sat W (NR v :: H) w' := by
  have h := nr_cases hs
  clear hs
  rcases h with ⟨rfl, hs⟩ | ⟨b, rfl, hs⟩
  · exact (ready27_nil hs).mono fun e w' ⟨he, hs⟩ => ⟨he, nr_nil hs⟩
  · exact (ready27_zero hs).mono fun e w' ⟨he, hs⟩ => ⟨he, nr_zero hs⟩
theorem nlen10 {v : Value} (hs : sat W (NR v :: H) w) : Calls Try.prog 10 #[v] w fun e w' => e = .returned (.int .i64 0) ∧ sat W (NR v :: H) w' := by
  go_enter Try.func10, Try.ntmps10
  go_wp2_with (first | (go_at_call 27; refine (nready27 (by (apply sk_from (hs := hs); repeat constructor))).mono ?_; clear hs; rintro e w ⟨rfl, hs⟩) | ((with_reducible refine isl ?_); first | ((with_reducible apply ld hs.b0); exact rfl; exact rfl; exact rfl; exact rfl; kernel_rfl) | ((with_reducible apply st hs.b0); exact rfl; exact rfl; exact rfl; exact rfl; exact rfl; exact rfl; kernel_rfl; exact rfl; clear hs; intro w hs) | ((with_reducible apply stc hs.b0); exact rfl; exact rfl; exact rfl; exact rfl; exact rfl; kernel_rfl; exact rfl; clear hs; intro w hs) | ((with_reducible refine wrap hs ?_); clear hs; intro w hs) | ((with_reducible refine wrapn hs ?_); clear hs; intro w hs) | ((with_reducible refine wrapd hs ?_); clear hs; intro w hs)))
  go_ret
  exact ⟨rfl, hs⟩
theorem nnext11 {v : Value} (hs : sat W (NR v :: H) w) : Calls Try.prog 11 #[v] w fun e w' => e = .returned (.int .i64 0) ∧ sat W (NR v :: H) w' := by
  go_enter Try.func11, Try.ntmps11
  go_wp2_with (first | (go_at_call 27; refine (nready27 (by (apply sk_from (hs := hs); repeat constructor))).mono ?_; clear hs; rintro e w ⟨rfl, hs⟩) | ((with_reducible refine isl ?_); first | ((with_reducible apply ld hs.b0); exact rfl; exact rfl; exact rfl; exact rfl; kernel_rfl) | ((with_reducible apply st hs.b0); exact rfl; exact rfl; exact rfl; exact rfl; exact rfl; exact rfl; kernel_rfl; exact rfl; clear hs; intro w hs) | ((with_reducible apply stc hs.b0); exact rfl; exact rfl; exact rfl; exact rfl; exact rfl; kernel_rfl; exact rfl; clear hs; intro w hs) | ((with_reducible refine wrap hs ?_); clear hs; intro w hs) | ((with_reducible refine wrapn hs ?_); clear hs; intro w hs) | ((with_reducible refine wrapd hs ?_); clear hs; intro w hs)))
  go_ret
  exact ⟨rfl, hs⟩
theorem ncap15 {v : Value} (hs : sat W (NR v :: H) w) : Calls Try.prog 15 #[v] w fun e w' => e = .returned (.int .i64 0) ∧ sat W (NR v :: H) w' := by
  go_enter Try.func15, Try.ntmps15
  go_wp2_with (first | (go_at_call 27; refine (nready27 (by (apply sk_from (hs := hs); repeat constructor))).mono ?_; clear hs; rintro e w ⟨rfl, hs⟩) | ((with_reducible refine isl ?_); first | ((with_reducible apply ld hs.b0); exact rfl; exact rfl; exact rfl; exact rfl; kernel_rfl) | ((with_reducible apply st hs.b0); exact rfl; exact rfl; exact rfl; exact rfl; exact rfl; exact rfl; kernel_rfl; exact rfl; clear hs; intro w hs) | ((with_reducible apply stc hs.b0); exact rfl; exact rfl; exact rfl; exact rfl; exact rfl; kernel_rfl; exact rfl; clear hs; intro w hs) | ((with_reducible refine wrap hs ?_); clear hs; intro w hs) | ((with_reducible refine wrapn hs ?_); clear hs; intro w hs) | ((with_reducible refine wrapd hs ?_); clear hs; intro w hs)))
  go_ret
  exact ⟨rfl, hs⟩
theorem nclear14 {v : Value} (hs : sat W (NR v :: H) w) : Calls Try.prog 14 #[v] w fun e w' => e = .returned (.int .i64 1) ∧ sat W (NR v :: H) w' := by
  go_enter Try.func14, Try.ntmps14
  go_wp2_with (first | (go_at_call 27; refine (nready27 (by (apply sk_from (hs := hs); repeat constructor))).mono ?_; clear hs; rintro e w ⟨rfl, hs⟩) | ((with_reducible refine isl ?_); first | ((with_reducible apply ld hs.b0); exact rfl; exact rfl; exact rfl; exact rfl; kernel_rfl) | ((with_reducible apply st hs.b0); exact rfl; exact rfl; exact rfl; exact rfl; exact rfl; exact rfl; kernel_rfl; exact rfl; clear hs; intro w hs) | ((with_reducible apply stc hs.b0); exact rfl; exact rfl; exact rfl; exact rfl; exact rfl; kernel_rfl; exact rfl; clear hs; intro w hs) | ((with_reducible refine wrap hs ?_); clear hs; intro w hs) | ((with_reducible refine wrapn hs ?_); clear hs; intro w hs) | ((with_reducible refine wrapd hs ?_); clear hs; intro w hs)))
  go_ret
  exact ⟨rfl, hs⟩
theorem ncopy16 {v : Value} (hs : sat W (NR v :: H) w) : Calls Try.prog 16 #[v] w fun e w' => e = .returned (.pointer none) ∧ sat W (NR v :: H) w' := by
  go_enter Try.func16, Try.ntmps16
  go_wp2_with (first | (go_at_call 27; refine (nready27 (by (apply sk_from (hs := hs); repeat constructor))).mono ?_; clear hs; rintro e w ⟨rfl, hs⟩) | ((with_reducible refine isl ?_); first | ((with_reducible apply ld hs.b0); exact rfl; exact rfl; exact rfl; exact rfl; kernel_rfl) | ((with_reducible apply st hs.b0); exact rfl; exact rfl; exact rfl; exact rfl; exact rfl; exact rfl; kernel_rfl; exact rfl; clear hs; intro w hs) | ((with_reducible apply stc hs.b0); exact rfl; exact rfl; exact rfl; exact rfl; exact rfl; kernel_rfl; exact rfl; clear hs; intro w hs) | ((with_reducible refine wrap hs ?_); clear hs; intro w hs) | ((with_reducible refine wrapn hs ?_); clear hs; intro w hs) | ((with_reducible refine wrapd hs ?_); clear hs; intro w hs)))
  go_ret
  exact ⟨rfl, hs⟩
theorem nfind13 {v : Value} {id : Int} (hs : sat W (NR v :: H) w) : Calls Try.prog 13 #[v, .int .i64 id] w fun e w' => e = .returned (.int .i64 (-1)) ∧ sat W (NR v :: H) w' := by
  go_enter Try.func13, Try.ntmps13
  go_wp2_with (first | (go_at_call 10; refine (nlen10 (by (apply sk_from (hs := hs); repeat constructor))).mono ?_; clear hs; rintro e w ⟨rfl, hs⟩) | ((with_reducible refine isl ?_); first | ((with_reducible apply ld hs.b0); exact rfl; exact rfl; exact rfl; exact rfl; kernel_rfl) | ((with_reducible apply st hs.b0); exact rfl; exact rfl; exact rfl; exact rfl; exact rfl; exact rfl; kernel_rfl; exact rfl; clear hs; intro w hs) | ((with_reducible apply stc hs.b0); exact rfl; exact rfl; exact rfl; exact rfl; exact rfl; kernel_rfl; exact rfl; clear hs; intro w hs) | ((with_reducible refine wrap hs ?_); clear hs; intro w hs) | ((with_reducible refine wrapn hs ?_); clear hs; intro w hs) | ((with_reducible refine wrapd hs ?_); clear hs; intro w hs)))
  go_loopw [10] (fun i wx => i = .int .i64 0 ∧ sat W (NR v :: H) wx) (fun _ _ => 0)
  case atStart => exact ⟨rfl, hs⟩
  case round =>
    clear hs
    obtain ⟨rfl, hs⟩ := hrel
    go_wp2_with fail
    go_ret
    exact ⟨rfl, hs⟩
theorem npush9 {v : Value} {id : Int} {x : Value} (hx : x.oneCell' = true) (hs : sat W (NR v :: H) w) : Calls Try.prog 9 #[v, .agg #[.int .i64 id, x]] w fun e w' => e = .returned (.int .i64 1) ∧ sat W (NR v :: H) w' := by
  go_enter Try.func9, Try.ntmps9
  go_wp2_with (first | (go_at_call 27; refine (nready27 (by (apply sk_from (hs := hs); repeat constructor))).mono ?_; clear hs; rintro e w ⟨rfl, hs⟩) | ((with_reducible refine isl ?_); first | ((with_reducible apply ld hs.b0); exact rfl; exact rfl; exact rfl; exact rfl; kernel_rfl) | ((with_reducible apply st hs.b0); exact rfl; exact rfl; exact rfl; exact rfl; exact rfl; exact rfl; kernel_rfl; exact rfl; clear hs; intro w hs) | ((with_reducible apply stc hs.b0); exact rfl; exact rfl; exact rfl; exact rfl; exact rfl; kernel_rfl; exact rfl; clear hs; intro w hs) | ((with_reducible refine wrap hs ?_); clear hs; (first | generalize w.heap.size = z4); intro w hs) | ((with_reducible refine wrap hs ?_); clear hs; intro w hs) | ((with_reducible refine wrapn hs ?_); clear hs; intro w hs) | ((with_reducible refine wrapd hs ?_); clear hs; intro w hs)))
  go_ret
  exact ⟨rfl, by refine sb_from ?_ hs; repeat constructor⟩
theorem nat12 {v : Value} {id : Int} (hs : sat W (NR v :: H) w) : Calls Try.prog 12 #[v, .int .i64 id] w fun e w' => e = .returned (.tuple #[.agg #[.int .i64 0, .slice none 0 0], .int .i64 1]) ∧ sat W (NR v :: H) w' := by
  go_enter Try.func12, Try.ntmps12
  go_wp2_with (first | (go_at_call 27; refine (nready27 (by (apply sk_from (hs := hs); repeat constructor))).mono ?_; clear hs; rintro e w ⟨rfl, hs⟩) | ((with_reducible refine isl ?_); first | ((with_reducible apply stsw hs.b0); exact rfl; exact rfl; exact rfl; exact rfl; exact row40; exact rfl; exact rfl; exact rfl; clear hs; intro w hs) | ((with_reducible apply stsw hs.b1); exact rfl; exact rfl; exact rfl; exact rfl; exact row40; exact rfl; exact rfl; exact rfl; clear hs; intro w hs) | ((with_reducible apply stsw hs.b2); exact rfl; exact rfl; exact rfl; exact rfl; exact row40; exact rfl; exact rfl; exact rfl; clear hs; intro w hs) | ((with_reducible apply ld hs.b0); exact rfl; exact rfl; exact rfl; exact rfl; kernel_rfl) | ((with_reducible apply st hs.b0); exact rfl; exact rfl; exact rfl; exact rfl; exact rfl; exact rfl; kernel_rfl; exact rfl; clear hs; intro w hs) | ((with_reducible apply stc hs.b0); exact rfl; exact rfl; exact rfl; exact rfl; exact rfl; kernel_rfl; exact rfl; clear hs; intro w hs) | ((with_reducible refine wrap hs ?_); clear hs; (first | generalize w.heap.size = z4); intro w hs) | ((with_reducible refine wrap hs ?_); clear hs; intro w hs) | ((with_reducible refine wrapn hs ?_); clear hs; intro w hs) | ((with_reducible refine wrapd hs ?_); clear hs; intro w hs)))
  (first | refine ⟨rfl, _, results_ct hs.b0 rfl rfl row40, ?_⟩ | refine ⟨rfl, _, results_ct hs.b1 rfl rfl row40, ?_⟩ | refine ⟨rfl, _, results_ct hs.b2 rfl rfl row40, ?_⟩ | refine ⟨rfl, _, results_ct hs.b3 rfl rfl row40, ?_⟩ | refine ⟨rfl, _, results_ct hs.b4 rfl rfl row40, ?_⟩ | refine ⟨rfl, _, results_ct hs.b5 rfl rfl row40, ?_⟩ | refine ⟨rfl, _, results_ct hs.b6 rfl rfl row40, ?_⟩ | refine ⟨rfl, _, results_ct hs.b7 rfl rfl row40, ?_⟩)
  exact ⟨rfl, by refine sb_from ?_ hs; repeat constructor⟩
theorem nfresh8 {v : Value} {n : Int} {a : At} (hs : sat W (NR v :: H) w) : Calls Try.prog 8 #[v, .int .i64 n, aV a] w fun e w' => e = .returned (.tuple #[.agg #[.int .i64 0, .pointer none], .int .i64 1]) ∧ sat W (NR v :: H) w' := by
  go_enter Try.func8, Try.ntmps8
  go_wp2_with (first | (go_at_call 27; refine (nready27 (by (apply sk_from (hs := hs); repeat constructor))).mono ?_; clear hs; rintro e w ⟨rfl, hs⟩) | ((with_reducible refine isl ?_); first | ((with_reducible apply stsw hs.b0); exact rfl; exact rfl; exact rfl; exact rfl; exact row29; exact rfl; exact rfl; exact rfl; clear hs; intro w hs) | ((with_reducible apply stsw hs.b1); exact rfl; exact rfl; exact rfl; exact rfl; exact row29; exact rfl; exact rfl; exact rfl; clear hs; intro w hs) | ((with_reducible apply stsw hs.b2); exact rfl; exact rfl; exact rfl; exact rfl; exact row29; exact rfl; exact rfl; exact rfl; clear hs; intro w hs) | ((with_reducible apply ld hs.b0); exact rfl; exact rfl; exact rfl; exact rfl; kernel_rfl) | ((with_reducible apply st hs.b0); exact rfl; exact rfl; exact rfl; exact rfl; exact rfl; exact rfl; kernel_rfl; exact rfl; clear hs; intro w hs) | ((with_reducible apply stc hs.b0); exact rfl; exact rfl; exact rfl; exact rfl; exact rfl; kernel_rfl; exact rfl; clear hs; intro w hs) | ((with_reducible refine wrap hs ?_); clear hs; (first | (have _t := z4; clear _t; generalize w.heap.size = z5) | generalize w.heap.size = z4); intro w hs) | ((with_reducible refine wrap hs ?_); clear hs; intro w hs) | ((with_reducible refine wrapn hs ?_); clear hs; intro w hs) | ((with_reducible refine wrapd hs ?_); clear hs; intro w hs)))
  (first | refine ⟨rfl, _, results_ct hs.b0 rfl rfl row29, ?_⟩ | refine ⟨rfl, _, results_ct hs.b1 rfl rfl row29, ?_⟩ | refine ⟨rfl, _, results_ct hs.b2 rfl rfl row29, ?_⟩ | refine ⟨rfl, _, results_ct hs.b3 rfl rfl row29, ?_⟩ | refine ⟨rfl, _, results_ct hs.b4 rfl rfl row29, ?_⟩ | refine ⟨rfl, _, results_ct hs.b5 rfl rfl row29, ?_⟩ | refine ⟨rfl, _, results_ct hs.b6 rfl rfl row29, ?_⟩ | refine ⟨rfl, _, results_ct hs.b7 rfl rfl row29, ?_⟩)
  exact ⟨rfl, by refine sb_from ?_ hs; repeat constructor⟩
theorem known7 (hs : sat W H w) : Calls Try.prog 7 #[] w fun e w' => e = .returned (.bool true) ∧ sat W H w' := by
  obtain ⟨c4, hc⟩ : ∃ c, eraseG (List.replicate 4 (bC At.z)) 0 (4 : Nat) At.z = c := ⟨_, rfl⟩
  have HC := Lib.hid hc
  have c0 : c4.length = 4 := by rw [← hc]; exact fresh_len 4 At.z
  have c1 : Ok c4 := by rw [← hc]; exact fresh_ok 4 At.z
  have HCL := Lib.hid c0
  have HOK := Lib.hid c1
  have HLK : Hid (∀ i, LOK (lnQ 2 i c4)) := Lib.hid fun i => lnQ_ok (by omega) (by omega) c1
  clear hc c0 c1
  go_enter Try.func7, Try.ntmps7
  go_wp2_with (first | (go_at_call 6; refine (new6 (most := 2) (by omega) (by (apply sk_from (hs := hs); repeat constructor))).mono ?_; clear hs; rintro e w ⟨b, rfl, hs⟩) | ((with_reducible refine isl ?_); first | ((with_reducible refine wrap hs ?_); clear hs; intro w hs) | ((with_reducible refine wrapn hs ?_); clear hs; intro w hs) | ((with_reducible refine wrapd hs ?_); clear hs; intro w hs)))
  go_loopw [17] (fun i wx => ∃ i0 : Nat, i0 ≤ 3 ∧ i = .int .i64 (i0 : Int) ∧ sat W (stP b 2 ((i0 : Int) + 1) (lnQ 2 i0 c4) :: H) wx) (fun i _ => ((3 : Int) - intOf i).toNat)
  case atStart => exact ⟨0, by omega, rfl, by rw [lnQ_zero]; exact hs⟩
  case round =>
    clear hs
    obtain ⟨i0, hi, rfl, hs⟩ := hrel
    by_cases hin : i0 < 3
    · have hin2 : (i0 : Int) < 3 := by omega
      have HP := Lib.hid (lnQ_push 2 i0 c4)
      have e1 : ((i0 + 1 : Nat) : Int) = (i0 : Int) + 1 := by omega
      rw [e1] at HP
      go_wp2_with (first | (go_at_call 8; refine (fresh8 (n := 4) (a := At.z) (nx := (i0 : Int) + 1) (by omega) (by omega) (by omega) (by omega) (by (apply sk_from (hs := hs); repeat constructor))).mono ?_; clear hs; rintro e w ⟨b2, rfl, hs⟩; rw [HC.out] at hs) | (go_at_call 9; refine (push9 (nx := (i0 : Int) + 1 + 1) (id := (i0 : Int) + 1) (most := 2) HCL.out (by omega) (by omega) HOK.out ⟨by omega, by omega⟩ (by omega) (by (apply sk_from (hs := hs); repeat constructor))).mono ?_; clear hs; rintro e w ⟨rfl, hs⟩; rw [HP.out] at hs) | ((with_reducible refine isl ?_); first | ((with_reducible refine wrap hs ?_); clear hs; generalize World.heap _ = q at *; generalize q.size = z9; intro w hs) | ((with_reducible apply stsw hs.b0); exact rfl; exact rfl; exact rfl; exact rfl; exact row29; exact rfl; exact rfl; exact rfl; clear hs; intro w hs) | ((with_reducible apply stsw hs.b1); exact rfl; exact rfl; exact rfl; exact rfl; exact row29; exact rfl; exact rfl; exact rfl; clear hs; intro w hs) | ((with_reducible apply stsw hs.b2); exact rfl; exact rfl; exact rfl; exact rfl; exact row29; exact rfl; exact rfl; exact rfl; clear hs; intro w hs) | ((with_reducible apply lds 2 hs.b0); exact rfl; exact rfl; exact rfl; exact row29; exact rfl; exact rfl) | ((with_reducible apply lds 2 hs.b1); exact rfl; exact rfl; exact rfl; exact row29; exact rfl; exact rfl) | ((with_reducible apply lds 2 hs.b2); exact rfl; exact rfl; exact rfl; exact row29; exact rfl; exact rfl) | ((with_reducible apply lds 2 hs.b3); exact rfl; exact rfl; exact rfl; exact row29; exact rfl; exact rfl) | ((with_reducible apply ld hs.b0); exact rfl; exact rfl; exact rfl; exact rfl; kernel_rfl) | ((with_reducible apply ld hs.b1); exact rfl; exact rfl; exact rfl; exact rfl; kernel_rfl) | ((with_reducible apply ld hs.b2); exact rfl; exact rfl; exact rfl; exact rfl; kernel_rfl) | ((with_reducible apply st hs.b0); exact rfl; exact rfl; exact rfl; exact rfl; exact rfl; exact rfl; kernel_rfl; exact rfl; clear hs; intro w hs) | ((with_reducible apply st hs.b1); exact rfl; exact rfl; exact rfl; exact rfl; exact rfl; exact rfl; kernel_rfl; exact rfl; clear hs; intro w hs) | ((with_reducible apply st hs.b2); exact rfl; exact rfl; exact rfl; exact rfl; exact rfl; exact rfl; kernel_rfl; exact rfl; clear hs; intro w hs) | ((with_reducible apply stc hs.b0); exact rfl; exact rfl; exact rfl; exact rfl; exact rfl; kernel_rfl; exact rfl; clear hs; intro w hs) | ((with_reducible apply stc hs.b1); exact rfl; exact rfl; exact rfl; exact rfl; exact rfl; kernel_rfl; exact rfl; clear hs; intro w hs) | ((with_reducible apply stc hs.b2); exact rfl; exact rfl; exact rfl; exact rfl; exact rfl; kernel_rfl; exact rfl; clear hs; intro w hs) | ((with_reducible refine wrap hs ?_); clear hs; intro w hs) | ((with_reducible refine wrapn hs ?_); clear hs; intro w hs) | ((with_reducible refine wrapd hs ?_); clear hs; intro w hs)))
      go_roundw
      case rel => exact ⟨i0 + 1, by omega, by go_num, by rw [e1]; refine sb_from ?_ hs; repeat constructor⟩
      case measure => simp [intOf]; omega
    · have HG := Lib.hid (lnQ_get (most := 2) (i := 3) (j := 0) (c := c4) (by decide))
      obtain rfl : i0 = 3 := by omega
      clear hin
      obtain ⟨L, hL⟩ : ∃ L, lnQ 2 3 c4 = L := ⟨_, rfl⟩
      have HLN : Hid (L.length = 2) := Lib.hid (by rw [← hL, lnQ_len]; rfl)
      have HF1' : Hid (fnd L 1 = -1) := Lib.hid (by rw [← hL, lnQ_find]; decide)
      have HF3' : Hid (fnd L 3 = 1) := Lib.hid (by rw [← hL, lnQ_find]; decide)
      have HG' : Hid (L[0]? = some (2, c4)) := Lib.hid (by rw [← hL]; exact HG.out)
      have HLK' : Hid (LOK L) := Lib.hid (by rw [← hL]; exact HLK.out 3)
      rw [hL] at hs
      clear HG hL
      obtain ⟨nx, hnx⟩ : ∃ nx : Int, ((3 : Nat) : Int) + 1 = nx := ⟨_, rfl⟩
      have HNX : Hid (nx = 4) := Lib.hid hnx.symm
      have hn0 : 0 < nx := by omega
      rw [hnx] at hs
      clear hnx
      have HN0 := Lib.hid hn0
      clear hn0
      go_wp2_with (first | (go_at_call 12; refine (at12 (most := 2) (i := 0) HG'.out HCL.out HLK'.out (by omega) HN0.out (by (apply sk_from (hs := hs); repeat constructor))).mono ?_; clear hs; rintro e w ⟨a5, p5, rfl, hs⟩) | (go_at_call 10; (first | refine (len10_st (n := 2) HLN.out HN0.out hs.b0).mono ?_ | refine (len10_st (n := 2) HLN.out HN0.out hs.b1).mono ?_ | refine (len10_st (n := 2) HLN.out HN0.out hs.b2).mono ?_ | refine (len10_st (n := 2) HLN.out HN0.out hs.b3).mono ?_ | refine (len10_st (n := 2) HLN.out HN0.out hs.b4).mono ?_ | refine (len10_st (n := 2) HLN.out HN0.out hs.b5).mono ?_ | refine (len10_st (n := 2) HLN.out HN0.out hs.b6).mono ?_ | refine (len10_st (n := 2) HLN.out HN0.out hs.b7).mono ?_); clear hs; rintro e w ⟨rfl, hs⟩) | (go_at_call 13; refine (find13 (most := 2) (id := 1) (by omega) HN0.out (by (apply sk_from (hs := hs); repeat constructor))).mono ?_; clear hs; rintro e w ⟨rfl, hs⟩; rw [HF1'.out]) | (go_at_call 13; refine (find13 (most := 2) (id := 3) (by omega) HN0.out (by (apply sk_from (hs := hs); repeat constructor))).mono ?_; clear hs; rintro e w ⟨rfl, hs⟩; rw [HF3'.out]) | (go_at_call 14; refine (clear14 HN0.out (by (apply sk_from (hs := hs); repeat constructor))).mono ?_; clear hs; rintro e w ⟨rfl, hs⟩) | (go_at_call 10; (first | refine (len10_st (L := []) (n := 0) rfl HN0.out hs.b0).mono ?_ | refine (len10_st (L := []) (n := 0) rfl HN0.out hs.b1).mono ?_ | refine (len10_st (L := []) (n := 0) rfl HN0.out hs.b2).mono ?_ | refine (len10_st (L := []) (n := 0) rfl HN0.out hs.b3).mono ?_ | refine (len10_st (L := []) (n := 0) rfl HN0.out hs.b4).mono ?_ | refine (len10_st (L := []) (n := 0) rfl HN0.out hs.b5).mono ?_ | refine (len10_st (L := []) (n := 0) rfl HN0.out hs.b6).mono ?_ | refine (len10_st (L := []) (n := 0) rfl HN0.out hs.b7).mono ?_); clear hs; rintro e w ⟨rfl, hs⟩) | (go_at_call 11; refine (next11_st HN0.out (by (apply sk_from (hs := hs); repeat constructor))).mono ?_; clear hs; rintro e w ⟨rfl, hs⟩; rw [HNX.out]) | ((with_reducible refine isl ?_); first | ((with_reducible refine wrap hs ?_); clear hs; generalize World.heap _ = q at *; generalize q.size = z9; intro w hs) | ((with_reducible apply stsw hs.b0); exact rfl; exact rfl; exact rfl; exact rfl; exact row40; exact rfl; exact rfl; exact rfl; clear hs; intro w hs) | ((with_reducible apply stsw hs.b1); exact rfl; exact rfl; exact rfl; exact rfl; exact row40; exact rfl; exact rfl; exact rfl; clear hs; intro w hs) | ((with_reducible apply stsw hs.b2); exact rfl; exact rfl; exact rfl; exact rfl; exact row40; exact rfl; exact rfl; exact rfl; clear hs; intro w hs) | ((with_reducible apply ld hs.b0); exact rfl; exact rfl; exact rfl; exact rfl; kernel_rfl) | ((with_reducible apply ld hs.b1); exact rfl; exact rfl; exact rfl; exact rfl; kernel_rfl) | ((with_reducible apply ld hs.b2); exact rfl; exact rfl; exact rfl; exact rfl; kernel_rfl) | ((with_reducible apply st hs.b0); exact rfl; exact rfl; exact rfl; exact rfl; exact rfl; exact rfl; kernel_rfl; exact rfl; clear hs; intro w hs) | ((with_reducible apply st hs.b1); exact rfl; exact rfl; exact rfl; exact rfl; exact rfl; exact rfl; kernel_rfl; exact rfl; clear hs; intro w hs) | ((with_reducible apply st hs.b2); exact rfl; exact rfl; exact rfl; exact rfl; exact rfl; exact rfl; kernel_rfl; exact rfl; clear hs; intro w hs) | ((with_reducible apply stc hs.b0); exact rfl; exact rfl; exact rfl; exact rfl; exact rfl; kernel_rfl; exact rfl; clear hs; intro w hs) | ((with_reducible apply stc hs.b1); exact rfl; exact rfl; exact rfl; exact rfl; exact rfl; kernel_rfl; exact rfl; clear hs; intro w hs) | ((with_reducible apply stc hs.b2); exact rfl; exact rfl; exact rfl; exact rfl; exact rfl; kernel_rfl; exact rfl; clear hs; intro w hs) | ((with_reducible refine wrap hs ?_); clear hs; intro w hs) | ((with_reducible refine wrapn hs ?_); clear hs; intro w hs) | ((with_reducible refine wrapd hs ?_); clear hs; intro w hs)))
      go_ret
      exact ⟨rfl, by refine sb_from ?_ hs; repeat constructor⟩
end Go.Proofs.Ytbaplncifomfnaa
