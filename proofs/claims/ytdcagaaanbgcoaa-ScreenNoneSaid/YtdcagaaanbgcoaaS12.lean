/- Law 9: there and back (parts). -/
import Derived.Test.YtdcagaaanbgcoaaS11
namespace Go.Proofs.Ytdcagaaanbgcoaa
open Go.RowKit Go.Mem Go.Cells Go.Lines
variable {W w : World} {H : List HProp} {α : Type}
theorem hld_z (k : Nat) : hld 0 k = 0 := by unfold hld; omega
theorem hld_n (k : Nat) : hld (-1) k = 0 := by unfold hld; omega
theorem pushs_z (most : Nat) (SL : List LN) : pushs most SL [] = SL := rfl
theorem frL_z (nx : Int) (fc : List C) : frL 0 nx fc = [] := rfl
theorem tdd (L : List α) (f k : Nat) : L.take f ++ (L.drop f).take k ++ L.drop (f + k) = L := by
  rw [List.append_assoc, ← List.drop_drop, List.take_append_drop, List.take_append_drop]
theorem upL_z (L : List α) (f k : Nat) : upL L f k 0 [] = L := by
  unfold upL
  rw [Nat.add_zero, Nat.sub_zero, List.append_nil, tdd]
theorem downL_z (L : List α) (f k : Nat) : downL L f k 0 [] = L := by
  unfold downL
  rw [Nat.sub_zero, List.append_nil, tdd]
theorem frL_get {n j : Nat} (nx : Int) (fc : List C) (h : j < n) : (frL n nx fc)[j]? = some (nx + (j : Int), fc) := by
  unfold frL
  rw [List.getElem?_map, List.getElem?_range h]
  rfl
theorem back_is (L : List α) {f k m : Nat} {F G : List α} (hm : m ≤ k) (h : f + k ≤ L.length) (hF : F.length = m) : upL (downL L f k m F) f k m G = L.take f ++ (L.drop f).take (k - m) ++ G ++ L.drop (f + k) := by
  have h1 : (L.take f).length = f := by rw [List.length_take]; omega
  have h2 : ((L.drop f).take (k - m)).length = k - m := by rw [List.length_take, List.length_drop]; omega
  unfold upL downL
  generalize (L.drop f).take (k - m) = B at *
  generalize L.drop (f + k) = D at *
  generalize L.take f = A at *
  have e1 : (A ++ F ++ B ++ D).take f = A := by rw [List.append_assoc, List.append_assoc, tk1 h1]
  have e2 : (A ++ F ++ B ++ D).drop (f + m) = B ++ D := by rw [List.append_assoc, ← List.drop_drop, List.append_assoc, dp1 h1, dp1 hF]
  have e3 : (A ++ F ++ B ++ D).drop (f + k) = D := by
    have : (A ++ F ++ B).length = f + k := by rw [List.length_append, List.length_append]; omega
    rw [dp1 this]
  rw [e1, e2, e3, tk1 h2]
/-- What is back. -/
def backL (L : List LN) (f k m : Nat) (nx : Int) (fc : List C) : List LN := upL (downL L f k m (frL m nx fc)) f k m (frL m (nx + m) fc)
theorem backL_len (L : List LN) {f k m : Nat} {nx : Int} {fc : List C} (hm : m ≤ k) (h : f + k ≤ L.length) : (backL L f k m nx fc).length = L.length := by
  unfold backL
  rw [upL_len _ hm (by rw [downL_len _ hm h (frL_len _ _ _)]; exact h) (frL_len _ _ _), downL_len _ hm h (frL_len _ _ _)]
theorem back_get {N f k m i : Nat} {nx : Int} {c0 fc : List C} (hm : m ≤ k) (h : f + k ≤ N) (hi : i < N) : ((idv (backL (frL N 1 c0) f k m nx fc)).getD i 0) = if f + k - m ≤ i ∧ i < f + k then nx + m + ((i - (f + k - m) : Nat) : Int) else 1 + (i : Int) := by
  have hL : (frL N 1 c0).length = N := frL_len _ _ _
  have e : (backL (frL N 1 c0) f k m nx fc)[i]? = some (if f + k - m ≤ i ∧ i < f + k then (nx + m + ((i - (f + k - m) : Nat) : Int), fc) else (1 + (i : Int), c0)) := by
    unfold backL
    rw [back_is _ hm (by rw [hL]; exact h) (frL_len _ _ _)]
    have h1 : ((frL N 1 c0).take f).length = f := by rw [List.length_take, hL]; omega
    have h2 : (((frL N 1 c0).drop f).take (k - m)).length = k - m := by rw [List.length_take, List.length_drop, hL]; omega
    have h3 : (frL m (nx + m) fc).length = m := frL_len _ _ _
    by_cases c1 : i < f
    · rw [List.append_assoc, List.append_assoc, List.getElem?_append_left (by rw [h1]; exact c1), List.getElem?_take, if_pos c1, frL_get _ _ hi, if_neg (by omega)]
    · by_cases c2 : i < f + k - m
      · rw [List.append_assoc, List.append_assoc, List.getElem?_append_right (by rw [h1]; omega), h1, List.getElem?_append_left (by rw [h2]; omega), List.getElem?_take, if_pos (by omega), List.getElem?_drop, show f + (i - f) = i by omega, frL_get _ _ hi, if_neg (by omega)]
      · by_cases c3 : i < f + k
        · rw [List.append_assoc, List.append_assoc, List.getElem?_append_right (by rw [h1]; omega), h1, List.getElem?_append_right (by rw [h2]; omega), h2, List.getElem?_append_left (by rw [h3]; omega), frL_get _ _ (by omega), if_pos (by omega), show i - f - (k - m) = i - (f + k - m) by omega]
        · rw [List.append_assoc, List.append_assoc, List.getElem?_append_right (by rw [h1]; omega), h1, List.getElem?_append_right (by rw [h2]; omega), h2, List.getElem?_append_right (by rw [h3]; omega), h3, List.getElem?_drop, show f + k + (i - f - (k - m) - m) = i by omega, frL_get _ _ hi, if_neg (by omega)]
  unfold idv
  rw [List.getD_eq_getElem?_getD, List.getElem?_map, e]
  split <;> rfl
theorem id_get {N i : Nat} {c0 : List C} (hi : i < N) : (idv (frL N 1 c0)).getD i 0 = 1 + (i : Int) := by
  unfold idv
  rw [List.getD_eq_getElem?_getD, List.getElem?_map, frL_get _ _ hi]
  rfl
attribute [local irreducible] rowTy oneTy World.setCell World.setCells World.alloc World.drew World.drewN Calls sat cel own blk old wpQuiet wpList cmb cmb1 rwP cls rws wi wh fst_ World.rangeAt lrw lnP stP lsP dsP lvs frL downL upL pushs backL idv
section
variable {b s N cols most f k : Nat} {nx top bot : Int} {L SL : List LN} {at_ : At}
theorem sset9_any {t2 b2 : Int} {keeps : Bool} (hn : L.length = N) (h0 : 0 < N) (hN : N ≤ 512) (hs : sat W (scP b s ⟨keeps, cols, 0, (N : Int) - 1, L⟩ :: H) w) :
    Calls Try.prog 9 #[.pointer (some ⟨b, 0, none⟩), .int .i64 t2, .int .i64 b2] w fun e w' => ∃ (v : Value) (f k : Nat) (B : Int), e = .returned v ∧ f + k ≤ N ∧ 0 < k ∧ Hid (B = ((f + k : Nat) : Int) - 1) ∧ sat W (scP b s ⟨keeps, cols, (f : Int), B, L⟩ :: H) w' := by
  obtain ⟨ps, g, p, HO, hs⟩ := sc_open' hn h0 hs
  by_cases hP : MOK N t2 b2
  · have hP2 := hP
    refine (sset9 h0 hN hP hs).mono ?_
    clear hs
    rintro e w ⟨rfl, hs⟩
    unfold MOK at hP2
    refine ⟨_, t2.toNat, (b2 + 1 - t2).toNat, _, rfl, by omega, by omega, Lib.hid rfl, ?_⟩
    have e1 : ((t2.toNat : Nat) : Int) = t2 := by omega
    have e2 : ((t2.toNat + (b2 + 1 - t2).toNat : Nat) : Int) - 1 = b2 := by omega
    rw [e1, e2]
    exact sc_close HO (by refine sb_from ?_ hs; repeat constructor)
  · refine (sset9_no h0 hN hP hs).mono ?_
    clear hs
    rintro e w ⟨rfl, hs⟩
    refine ⟨_, 0, N, _, rfl, by omega, h0, Lib.hid (by rw [Nat.zero_add]), ?_⟩
    exact sc_close HO (by refine sb_from ?_ hs; repeat constructor)
theorem smargins_sc {keeps : Bool} (hn : L.length = N) (h0 : 0 < N) (hs : sat W (scP b s ⟨keeps, cols, top, bot, L⟩ :: H) w) :
    Calls Try.prog 10 #[.pointer (some ⟨b, 0, none⟩)] w fun e w' => e = .returned (.tuple #[.int .i64 top, .int .i64 bot]) ∧ sat W (scP b s ⟨keeps, cols, top, bot, L⟩ :: H) w' := by
  obtain ⟨ps, g, p, HO, hs⟩ := sc_open' hn h0 hs
  refine (smargins10 h0 hs).mono ?_
  clear hs
  rintro e w ⟨rfl, hs⟩
  exact ⟨rfl, sc_close HO (by refine sb_from ?_ hs; repeat constructor)⟩
theorem sup12_z (hn : L.length = N) (h0 : 0 < N) (hN : N ≤ 512) (hb : bot = ((f + k : Nat) : Int) - 1) (hf : f + k ≤ N) (hk : 0 < k) (c0 : 1 ≤ cols) (c1 : cols ≤ 512) (hnx : 0 < nx) (hnb : nx + 512 ≤ 1000000) (ok : LOK L) (idk : IDK nx L) (hmo : most ≤ 10000)
    (hs : sat W (scP b s ⟨true, cols, (f : Int), bot, L⟩ :: stP s most nx SL :: H) w) :
    Calls Try.prog 12 #[.pointer (some ⟨b, 0, none⟩), .int .i64 0, aV at_] w fun e w' => e = .returned (.int .i64 0) ∧ sat W (scP b s ⟨true, cols, (f : Int), bot, L⟩ :: stP s most nx SL :: H) w' := by
  have e0 : nx + ((0 : Nat) : Int) = nx := by omega
  by_cases hf0 : f = 0
  · have h := sup12_push (q := 0) (at_ := at_) hn h0 hN rfl hb hf hk c0 c1 hnx hnb hf0 ok idk hmo hs
    rw [hld_z, frL_z, upL_z, e0, List.take_zero, pushs_z] at h
    exact h
  · have h := sup12_mid (q := 0) (at_ := at_) hn h0 hN rfl hb hf hk c0 c1 hnx hnb (by omega) hs
    rw [hld_z, frL_z, upL_z, e0] at h
    exact h
theorem sdn13_z {keeps : Bool} (hn : L.length = N) (h0 : 0 < N) (hN : N ≤ 512) (hb : bot = ((f + k : Nat) : Int) - 1) (hf : f + k ≤ N) (hk : 0 < k) (c0 : 1 ≤ cols) (c1 : cols ≤ 512) (hnx : 0 < nx) (hnb : nx + 512 ≤ 1000000)
    (hs : sat W (scP b s ⟨keeps, cols, (f : Int), bot, L⟩ :: stP s most nx SL :: H) w) :
    Calls Try.prog 13 #[.pointer (some ⟨b, 0, none⟩), .int .i64 (-1), aV at_] w fun e w' => e = .returned (.int .i64 0) ∧ sat W (scP b s ⟨keeps, cols, (f : Int), bot, L⟩ :: stP s most nx SL :: H) w' := by
  have e0 : nx + ((0 : Nat) : Int) = nx := by omega
  have h := sdn13 (q := -1) (at_ := at_) hn h0 hN rfl hb hf hk c0 c1 hnx hnb hs
  rw [hld_n, frL_z, downL_z, e0] at h
  exact h
theorem alk2 {a1 a2 : Option Addr} {n1 c1 n2 c2 : Nat} {l1 l2 : List Int} (h5 : n1 ≤ 1000) (hs : sat W (own 3 1 (.slice a1 n1 c1) n1 (l1.map (Value.int .i64)) :: own 3 1 (.slice a2 n2 c2) n2 (l2.map (Value.int .i64)) :: H) w) :
    Calls Try.prog 14 #[.slice a1 n1 c1, .slice a2 n2 c2] w fun e w' => e = .returned (.bool (decide (l1 = l2))) ∧ sat W (own 3 1 (.slice a1 n1 c1) n1 (l1.map (Value.int .i64)) :: own 3 1 (.slice a2 n2 c2) n2 (l2.map (Value.int .i64)) :: H) w' :=
  salike14 h5 (SK.of_own hs) ((SK.of_own hs.swap).mono fun w' h => h.swap) hs
theorem snew18_no {r c : Int} {keeps : Bool} {v : Value} (h : ¬ ((1 ≤ r ∧ r ≤ 512) ∧ (1 ≤ c ∧ c ≤ 512))) (hs : sat W H w) :
    Calls Try.prog 18 #[.int .i64 r, .int .i64 c, v, .bool keeps] w fun e w' => e = .returned (.tuple #[.pointer none, .int .i64 2]) ∧ sat W H w' := by
  by_cases h1 : 1 ≤ r ∧ r ≤ 512
  · have HN := Lib.hid (show decide (1 ≤ r ∧ r ≤ 512) = true from decide_eq_true h1)
    have HC := Lib.hid (show decide (1 ≤ c ∧ c ≤ 512) = false from decide_eq_false fun h2 => h ⟨h1, h2⟩)
    clear h h1
    go_enter Try.func18, Try.ntmps18
    go_wp2_with (first | (go_at_call 44; refine (may44 (x := r) hs).mono ?_; clear hs; rintro e w ⟨rfl, hs⟩; rw [HN.out]) | (go_at_call 44; refine (may44 (x := c) hs).mono ?_; clear hs; rintro e w ⟨rfl, hs⟩; rw [HC.out]) | ((with_reducible refine isl ?_); first | ((with_reducible apply ld hs.b0); exact rfl; exact rfl; exact rfl; exact rfl; kernel_rfl) | ((with_reducible apply ld hs.b1); exact rfl; exact rfl; exact rfl; exact rfl; kernel_rfl) | ((with_reducible apply ld hs.b2); exact rfl; exact rfl; exact rfl; exact rfl; kernel_rfl) | ((with_reducible apply st hs.b0); exact rfl; exact rfl; exact rfl; exact rfl; exact rfl; exact rfl; kernel_rfl; exact rfl; clear hs; intro w hs) | ((with_reducible apply st hs.b1); exact rfl; exact rfl; exact rfl; exact rfl; exact rfl; exact rfl; kernel_rfl; exact rfl; clear hs; intro w hs) | ((with_reducible apply st hs.b2); exact rfl; exact rfl; exact rfl; exact rfl; exact rfl; exact rfl; kernel_rfl; exact rfl; clear hs; intro w hs) | ((with_reducible apply stc hs.b0); exact rfl; exact rfl; exact rfl; exact rfl; exact rfl; kernel_rfl; exact rfl; clear hs; intro w hs) | ((with_reducible apply stc hs.b1); exact rfl; exact rfl; exact rfl; exact rfl; exact rfl; kernel_rfl; exact rfl; clear hs; intro w hs) | ((with_reducible apply stc hs.b2); exact rfl; exact rfl; exact rfl; exact rfl; exact rfl; kernel_rfl; exact rfl; clear hs; intro w hs) | ((with_reducible refine wrap hs ?_); clear hs; intro w hs) | ((with_reducible refine wrapn hs ?_); clear hs; intro w hs) | ((with_reducible refine wrapd hs ?_); clear hs; intro w hs)))
    refine end_ret rfl (results_tmp2 rfl _ _ _) ⟨rfl, hs⟩
  · have HN := Lib.hid (show decide (1 ≤ r ∧ r ≤ 512) = false from decide_eq_false h1)
    clear h h1
    go_enter Try.func18, Try.ntmps18
    go_wp2_with (first | (go_at_call 44; refine (may44 (x := r) hs).mono ?_; clear hs; rintro e w ⟨rfl, hs⟩; rw [HN.out]) | ((with_reducible refine isl ?_); first | ((with_reducible apply ld hs.b0); exact rfl; exact rfl; exact rfl; exact rfl; kernel_rfl) | ((with_reducible apply ld hs.b1); exact rfl; exact rfl; exact rfl; exact rfl; kernel_rfl) | ((with_reducible apply ld hs.b2); exact rfl; exact rfl; exact rfl; exact rfl; kernel_rfl) | ((with_reducible apply st hs.b0); exact rfl; exact rfl; exact rfl; exact rfl; exact rfl; exact rfl; kernel_rfl; exact rfl; clear hs; intro w hs) | ((with_reducible apply st hs.b1); exact rfl; exact rfl; exact rfl; exact rfl; exact rfl; exact rfl; kernel_rfl; exact rfl; clear hs; intro w hs) | ((with_reducible apply st hs.b2); exact rfl; exact rfl; exact rfl; exact rfl; exact rfl; exact rfl; kernel_rfl; exact rfl; clear hs; intro w hs) | ((with_reducible apply stc hs.b0); exact rfl; exact rfl; exact rfl; exact rfl; exact rfl; kernel_rfl; exact rfl; clear hs; intro w hs) | ((with_reducible apply stc hs.b1); exact rfl; exact rfl; exact rfl; exact rfl; exact rfl; kernel_rfl; exact rfl; clear hs; intro w hs) | ((with_reducible apply stc hs.b2); exact rfl; exact rfl; exact rfl; exact rfl; exact rfl; kernel_rfl; exact rfl; clear hs; intro w hs) | ((with_reducible refine wrap hs ?_); clear hs; intro w hs) | ((with_reducible refine wrapn hs ?_); clear hs; intro w hs) | ((with_reducible refine wrapd hs ?_); clear hs; intro w hs)))
    refine end_ret rfl (results_tmp2 rfl _ _ _) ⟨rfl, hs⟩
theorem smade8_no {r c : Int} {keeps : Bool} (h : ¬ ((1 ≤ r ∧ r ≤ 512) ∧ (1 ≤ c ∧ c ≤ 512))) (hm : most ≤ 10000) (hs : sat W H w) :
    Calls Try.prog 8 #[.int .i64 r, .int .i64 c, .int .i64 (most : Int), .bool keeps] w fun e w' => ∃ s, e = .returned (.tuple #[.pointer none, .pointer (some ⟨s, 0, none⟩), .bool false]) ∧ sat W (stP s most 1 [] :: H) w' := by
  go_enter Try.func8, Try.ntmps8
  go_wp2_with (first | (go_at_call 36; refine (new6 hm (by (apply sk_from (hs := hs); repeat constructor))).mono ?_; clear hs; rintro e w ⟨s, rfl, hs⟩) | (go_at_call 18; refine (snew18_no h hs).mono ?_; clear hs; rintro e w ⟨rfl, hs⟩) | ((with_reducible refine isl ?_); first | ((with_reducible refine wrap hs ?_); clear hs; intro w hs) | ((with_reducible refine wrapn hs ?_); clear hs; intro w hs) | ((with_reducible refine wrapd hs ?_); clear hs; intro w hs)))
  refine end_ret rfl (results_tmp3' rfl) ⟨s, rfl, hs⟩
end
end Go.Proofs.Ytdcagaaanbgcoaa
