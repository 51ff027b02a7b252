/- Law 16: runs that are alike. -/
import Derived.Test.YtkldbppldomjhaaR12
namespace Go.Proofs.Ytkldbppldomjhaa
open Go.RowKit Go.Mem Go.Typed Go.Front Go.Classify
section
variable {W w : World} {H : List HProp}
attribute [local irreducible] World.setCell World.alloc World.drew World.drewN Calls sat cel own blk old
theorem runes21_no (a b : Value) (xs ys : List Int) (w : World) (ha : Reads w a (xs.map (Value.int .i32))) (hb : Reads w b (ys.map (Value.int .i32))) (hne : xs.length ≠ ys.length) :
    Calls Try.prog 21 #[a, b] w fun e w' => e = .returned (.bool (decide (xs = ys))) ∧ ∃ n, w' = w.drewN n := by
  have HF := Lib.hid (show decide (xs = ys) = false by simp; rintro rfl; exact hne rfl)
  obtain ⟨h1, a, c, rfl, _⟩ := ha
  obtain ⟨h2, b, c', rfl, _⟩ := hb
  simp only [List.length_map] at *
  have e1 : ((xs.length : Int) != (ys.length : Int)) = true := by simp; omega
  unfold maxLen at h1 h2
  go_enter Try.func21, Try.ntmps21
  go_wp2
  go_ret
  exact ⟨ret_bool HF.out, 0, (World.drewN_zero w).symm⟩

set_option maxHeartbeats 400000 in
theorem runes21_eq (a b : Value) (xs ys : List Int) (w : World) (ha : Reads w a (xs.map (Value.int .i32))) (hb : Reads w b (ys.map (Value.int .i32))) (hne : xs.length = ys.length) :
    Calls Try.prog 21 #[a, b] w fun e w' => e = .returned (.bool (decide (xs = ys))) ∧ ∃ n, w' = w.drewN n := by
  obtain ⟨h1, a, c, rfl, ka⟩ := ha
  obtain ⟨h2, b, c', rfl, kb⟩ := hb
  simp only [List.length_map] at *
  obtain ⟨n, hn⟩ : ∃ n, n = xs.length := ⟨_, rfl⟩
  have hn2 : n = ys.length := by omega
  have ga : 0 < n → ∃ g off, a = some ⟨g, off, none⟩ ∧ ∀ i, i < n → w.cell? ⟨g, off + i, none⟩ = some (.int .i32 (xs.getD i 0)) := fun hp => by
    obtain ⟨g, off, rfl, hc⟩ := ka (by intro h; simp at h; subst h; simp at hn; omega)
    exact ⟨g, off, rfl, fun i hi => hc i _ (ints_get (by omega))⟩
  have gb : 0 < n → ∃ g off, b = some ⟨g, off, none⟩ ∧ ∀ i, i < n → w.cell? ⟨g, off + i, none⟩ = some (.int .i32 (ys.getD i 0)) := fun hp => by
    obtain ⟨g, off, rfl, hc⟩ := kb (by intro h; simp at h; subst h; simp at hn2; omega)
    exact ⟨g, off, rfl, fun i hi => hc i _ (ints_get (by omega))⟩
  have HN := Lib.hid hn
  have HN2 := Lib.hid hn2
  rw [← hn] at h1
  rw [← hn, ← hn2]
  clear ka kb hne hn hn2 h2
  unfold maxLen at h1
  have e1 : ((n : Int) != (n : Int)) = false := by simp
  have HA := Lib.hid ga
  have HB := Lib.hid gb
  clear ga gb
  go_enter Try.func21, Try.ntmps21
  go_wp2
  go_loopw [5] (fun i wr => ∃ k : Nat, k ≤ n ∧ i = .int .i64 k ∧ (∀ j, j < k → xs.getD j 0 = ys.getD j 0) ∧ ∃ m, wr = w.drewN m) (fun i _ => n - (intOf i).toNat)
  case atStart => exact ⟨0, Nat.zero_le _, rfl, fun j hj => by omega, 0, (World.drewN_zero w).symm⟩
  case round =>
    obtain ⟨k, hk, rfl, hj, m, rfl⟩ := hrel
    have HJ := Lib.hid hj
    clear hj
    by_cases hlt : k < n
    · obtain ⟨g, off, rfl, hc⟩ := HA.out (by omega)
      obtain ⟨g', off', rfl, hc'⟩ := HB.out (by omega)
      have c1 := hc k hlt
      have c2 := hc' k hlt
      clear hc hc'
      generalize hx : xs.getD k 0 = x at *
      generalize hy : ys.getD k 0 = y at *
      have HX := Lib.hid hx
      have HY := Lib.hid hy
      clear hx hy
      by_cases hxy : x = y
      · have e2 : (x != y) = false := by simpa using hxy
        have HXY := Lib.hid hxy
        clear hxy
        go_wp2
        go_quiet (fail)
        go_wp2
        go_roundw
        case rel => exact ⟨k + 1, by omega, by go_num, fun j hj => by
          by_cases e : j = k
          · subst e; rw [HX.out, HY.out, HXY.out]
          · exact HJ.out j (by omega), _, rfl⟩
        case measure => simp [intOf]; omega
      · have e2 : (x != y) = true := by simpa using hxy
        have HF := Lib.hid (show decide (xs = ys) = false by simp; intro h; rw [← HX.out, ← HY.out, h] at hxy; exact hxy rfl)
        clear hxy
        go_wp2
        go_quiet (fail)
        go_wp2
        go_ret
        exact ⟨ret_bool HF.out, _, World.drewN_drewN _ _ _⟩
    · have HF := Lib.hid (show decide (xs = ys) = true by
        simp only [decide_eq_true_eq]
        have h1 := HN.out
        have h2 := HN2.out
        apply List.ext_getElem (by omega)
        intro i h3 h4
        have := HJ.out i (by omega)
        rw [List.getD_eq_getElem?_getD, List.getD_eq_getElem?_getD, List.getElem?_eq_getElem h3, List.getElem?_eq_getElem h4] at this
        exact this)
      go_wp2
      go_ret
      exact ⟨ret_bool HF.out, _, rfl⟩

theorem runes21_any (a b : Value) (xs ys : List Int) (w : World) (ha : Reads w a (xs.map (Value.int .i32))) (hb : Reads w b (ys.map (Value.int .i32))) :
    Calls Try.prog 21 #[a, b] w fun e w' => e = .returned (.bool (decide (xs = ys))) ∧ ∃ n, w' = w.drewN n := by
  by_cases h : xs.length = ys.length
  · exact runes21_eq a b xs ys w ha hb h
  · exact runes21_no a b xs ys w ha hb h


theorem runes21 {a b : Value} {xs : List Int} (ha : Reads w a (runes xs)) (hb : Reads w b (runes xs)) (hs : sat W H w) : Calls Try.prog 21 #[a, b] w fun e w' => e = .returned (.bool true) ∧ sat W H w' :=
  (runes21_any a b xs xs w ha hb).mono fun e w' ⟨he, n, hn⟩ => ⟨by rw [he, decide_eq_true rfl], by rw [hn]; exact hs.drewN n⟩
end
variable {W w : World} {H : List HProp}
def RdR (W : World) (H : List HProp) (x : Run) (c : List Value) : Prop := ∃ (aT : Option Addr) (cT : Nat), c = rnC x (.slice aT x.text.length cT) ∧ ∀ w', sat W H w' → Reads w' (.slice aT x.text.length cT) (runes x.text)
theorem rnl_get : ∀ {l : List Run} {L : List (List Value)} {H : List HProp} {i : Nat} {x : Run}, sat W (rnl l L :: H) w → l[i]? = some x → ∃ c, L[i]? = some c ∧ sat W (rnO x c :: H) w
  | [], _, _, i, x, _, h => by simp at h
  | _ :: _, [], _, _, _, hs, _ => by
    have hs : sat W (pur False :: _) w := hs
    exact hs.pure.elim
  | y :: l, c :: L, H, i, x, hs, h => by
    have hs : sat W (star (rnO y c) (rnl l L) :: _) w := hs
    have hs := hs.unstar
    cases i with
    | zero =>
      simp only [List.getElem?_cons_zero, Option.some.injEq] at h
      subst h
      exact ⟨c, rfl, hs.b1.drop⟩
    | succ i =>
      rw [List.getElem?_cons_succ] at h ⊢
      exact rnl_get hs.drop h
theorem rnO_reads {x : Run} {c : List Value} (hs : sat W (rnO x c :: H) w) : ∃ (aT : Option Addr) (cT : Nat), c = rnC x (.slice aT x.text.length cT) ∧ Reads w (.slice aT x.text.length cT) (runes x.text) := by
  obtain ⟨aT, hs⟩ := hs.ex
  obtain ⟨cT, hs⟩ := hs.ex
  obtain ⟨e, hs⟩ := hs.and_pure
  exact ⟨aT, cT, e, hs.own_reads.1⟩
theorem rnl_rdr {l : List Run} {L : List (List Value)} {H : List HProp} {i : Nat} {x : Run} (hg : ∀ w', sat W H w' → ∃ H', sat W (rnl l L :: H') w') (hs : sat W H w) (h : l[i]? = some x) : ∃ c, L[i]? = some c ∧ RdR W H x c := by
  obtain ⟨H', h1⟩ := hg w hs
  obtain ⟨c, hc, h2⟩ := rnl_get h1 h
  obtain ⟨aT, cT, e, _⟩ := rnO_reads h2
  refine ⟨c, hc, aT, cT, e, fun w' hw' => ?_⟩
  obtain ⟨H2, k1⟩ := hg w' hw'
  obtain ⟨c', hc', k2⟩ := rnl_get k1 h
  rw [hc] at hc'
  cases hc'
  obtain ⟨aT', cT', e', r1⟩ := rnO_reads k2
  rw [e] at e'
  unfold rnC at e'
  simp only [List.cons.injEq, Value.slice.injEq, true_and, and_true] at e'
  obtain ⟨rfl, rfl⟩ := e'
  exact r1
theorem one5 : oneTy Try.prog 5 = true := by kernel_rfl
theorem one31 : oneTy Try.prog 31 = true := by kernel_rfl
theorem one30 : oneTy Try.prog 30 = true := by kernel_rfl
attribute [local irreducible] World.setCell World.setCells World.alloc World.drew World.drewN Calls sat cel own blk old wpQuiet wpList tyL ringC rns tyP clP rnl

set_option maxHeartbeats 2000000 in
theorem same9_rd {a1 a2 : Option Addr} {c1 c2 n : Nat} {l : List Run} {L1 L2 : List (List Value)} {HH : List HProp} (hl : l.length = n) (hn : n ≤ 100000) (S1 : SR 4 W HH a1 n c1 L1) (S2 : SR 4 W HH a2 n c2 L2)
    (D1 : ∀ (i : Nat) (x : Run), l[i]? = some x → ∃ c, L1[i]? = some c ∧ RdR W HH x c) (D2 : ∀ (i : Nat) (x : Run), l[i]? = some x → ∃ c, L2[i]? = some c ∧ RdR W HH x c) (hs : sat W HH w) :
    Calls Try.prog 9 #[.slice a1 n c1, .slice a2 n c2] w fun e w' => e = .returned (.bool true) ∧ sat W HH w' := by
  have HS1 := Lib.hid S1
  have HS2 := Lib.hid S2
  have HD1 := Lib.hid D1
  have HD2 := Lib.hid D2
  have HL := Lib.hid hl
  clear S1 S2 D1 D2 hl
  go_enter Try.func9, Try.ntmps9
  go_wp2_with fail
  go_loopw [5] (fun i wr => ∃ j : Nat, j ≤ n ∧ i = .int .i64 (j : Int) ∧ sat W HH wr) (fun i _ => ((n : Int) - intOf i).toNat)
  case atStart => exact ⟨0, Nat.zero_le _, rfl, hs⟩
  case round =>
    clear hs
    obtain ⟨j, hj, rfl, hs⟩ := hrel
    by_cases hjn : j < n
    · obtain ⟨x, hx⟩ : ∃ x, l[j]? = some x := ⟨_, List.getElem?_eq_getElem (by rw [HL.out]; exact hjn)⟩
      obtain ⟨r1, hr1, aT, cT, rfl, d1⟩ := HD1.out j x hx
      obtain ⟨r2, hr2, aT2, cT2, rfl, d2⟩ := HD2.out j x hx
      obtain ⟨_, b1, o1, rfl, hc1⟩ := HS1.out.get hs hr1
      obtain ⟨_, b2, o2, rfl, hc2⟩ := HS2.out.get hs hr2
      have A01 := Lib.hid (fun (w' : World) (h : sat W HH w') => rangeAt_cell (j := 0) (hc1 w' h) rfl)
      have A02 := Lib.hid (fun (w' : World) (h : sat W HH w') => rangeAt_cell (j := 0) (hc2 w' h) rfl)
      have A11 := Lib.hid (fun (w' : World) (h : sat W HH w') => rangeAt_cell (j := 1) (hc1 w' h) rfl)
      have A12 := Lib.hid (fun (w' : World) (h : sat W HH w') => rangeAt_cell (j := 1) (hc2 w' h) rfl)
      have A21 := Lib.hid (fun (w' : World) (h : sat W HH w') => rangeAt_cell (j := 2) (hc1 w' h) rfl)
      have A22 := Lib.hid (fun (w' : World) (h : sat W HH w') => rangeAt_cell (j := 2) (hc2 w' h) rfl)
      have A31 := Lib.hid (fun (w' : World) (h : sat W HH w') => rangeAt_cell (j := 3) (hc1 w' h) rfl)
      have A32 := Lib.hid (fun (w' : World) (h : sat W HH w') => rangeAt_cell (j := 3) (hc2 w' h) rfl)
      have HR1 := Lib.hid d1
      have HR2 := Lib.hid d2
      clear hx hr1 hr2 hc1 hc2 d1 d2
      go_wp2_with fail
      refine region_mix [([0, 1, 2, 3, 4, 5, 6, 7, 8, 9, 10, 11, 12, 13, 14, 15, 16, 17, 18, 19, 20, 21, 22, 23, 24, 25, 26, 27, 28, 29, 30, 31, 32, 33, 34, 35, 36, 37, 38, 39, 40, 41, 42, 43, 44, 45, 46, 47], [48])] [49, 50] hs (fun _ h => h) (by kernel_rfl) (by kernel_rfl) (fun _ _ _ _ _ h => h) ?_
      simp only [segs, nths, nth, List.append_nil, List.nil_append, List.cons_append, List.map_cons, List.map_nil]
      refine seg_reads (fun _ h => h) ?_; intro X f hne hf hcl; (try simp only [Act.put, List.setIfInBounds_toArray, List.set_cons_succ, List.set_cons_zero]); (repeat ((first | (apply ldcq; exact rfl; exact rfl; exact rfl; exact fun y => A01.out _ (hf y); exact one5) | (apply ldcq; exact rfl; exact rfl; exact rfl; exact fun y => A02.out _ (hf y); exact one5) | (apply ldcq; exact rfl; exact rfl; exact rfl; exact fun y => A11.out _ (hf y); exact one31) | (apply ldcq; exact rfl; exact rfl; exact rfl; exact fun y => A12.out _ (hf y); exact one31) | (apply ldcq; exact rfl; exact rfl; exact rfl; exact fun y => A21.out _ (hf y); exact one31) | (apply ldcq; exact rfl; exact rfl; exact rfl; exact fun y => A22.out _ (hf y); exact one31) | (apply ldcq; exact rfl; exact rfl; exact rfl; exact fun y => A31.out _ (hf y); exact one30) | (apply ldcq; exact rfl; exact rfl; exact rfl; exact fun y => A32.out _ (hf y); exact one30) | go_big_quiet_step (fail)); (try simp only [Act.put, List.setIfInBounds_toArray, List.set_cons_succ, List.set_cons_zero]))); refine wpQuiet_nil ?_; clear hcl hf hne hs f X; intro w hs
      go_wp2_with (first | (go_at_call 21; refine (runes21 (HR1.out _ hs) (HR2.out _ hs) hs).mono ?_; clear hs; rintro e w ⟨rfl, hs⟩) | ((with_reducible refine isl ?_); first | ((with_reducible refine wrap hs ?_); clear hs; intro w hs) | ((with_reducible refine wrapn hs ?_); clear hs; intro w hs) | ((with_reducible refine wrapd hs ?_); clear hs; intro w hs)))
      (first | (refine seg_on hs (by first | exact fun _ h => h | exact fun _ h => h.drop | exact fun _ h => h.drop.drop | exact fun _ h => h.drop.drop.drop) (fun _ h => h) ?_; clear hs; intro hs) | (refine seg_on hs.made (by first | exact fun _ h => h | exact fun _ h => h.drop | exact fun _ h => h.drop.drop | exact fun _ h => h.drop.drop.drop) (fun _ h => h) ?_; clear hs; intro hs) | (refine seg_on hs.drew (by first | exact fun _ h => h | exact fun _ h => h.drop | exact fun _ h => h.drop.drop | exact fun _ h => h.drop.drop.drop) (fun _ h => h) ?_; clear hs; intro hs) | (refine seg_on hs.drew.made (by first | exact fun _ h => h | exact fun _ h => h.drop | exact fun _ h => h.drop.drop | exact fun _ h => h.drop.drop.drop) (fun _ h => h) ?_; clear hs; intro hs) | (refine seg_on (hs.drewN _) (by first | exact fun _ h => h | exact fun _ h => h.drop | exact fun _ h => h.drop.drop | exact fun _ h => h.drop.drop.drop) (fun _ h => h) ?_; clear hs; intro hs))
      refine seg_last (fun _ h => h) ?_; intro X f hne hf hcl; (try simp only [Act.put, List.setIfInBounds_toArray, List.set_cons_succ, List.set_cons_zero]); (repeat ((first | (apply ldcq; exact rfl; exact rfl; exact rfl; exact fun y => A01.out _ (hf y); exact one5) | (apply ldcq; exact rfl; exact rfl; exact rfl; exact fun y => A02.out _ (hf y); exact one5) | (apply ldcq; exact rfl; exact rfl; exact rfl; exact fun y => A11.out _ (hf y); exact one31) | (apply ldcq; exact rfl; exact rfl; exact rfl; exact fun y => A12.out _ (hf y); exact one31) | (apply ldcq; exact rfl; exact rfl; exact rfl; exact fun y => A21.out _ (hf y); exact one31) | (apply ldcq; exact rfl; exact rfl; exact rfl; exact fun y => A22.out _ (hf y); exact one31) | (apply ldcq; exact rfl; exact rfl; exact rfl; exact fun y => A31.out _ (hf y); exact one30) | (apply ldcq; exact rfl; exact rfl; exact rfl; exact fun y => A32.out _ (hf y); exact one30) | go_big_quiet_step (fail)); (try simp only [Act.put, List.setIfInBounds_toArray, List.set_cons_succ, List.set_cons_zero]))); refine wpQuiet_nil ?_; clear hcl hf hne hs f X; intro w hs
      go_wp2_with fail
      go_roundw
      case rel => exact ⟨j + 1, by omega, by go_num, hs⟩
      case measure => simp [intOf]; omega
    · have hjn2 : j = n := by omega
      obtain rfl : n = j := hjn2.symm
      go_wp2_with fail
      go_ret
      exact ⟨rfl, hs⟩
theorem same9 {a1 a2 : Option Addr} {c1 c2 n : Nat} {l : List Run} (hl : l.length = n) (hn : n ≤ 100000) (hs : sat W (rns (.slice a1 n c1) l :: rns (.slice a2 n c2) l :: H) w) :
    Calls Try.prog 9 #[.slice a1 n c1, .slice a2 n c2] w fun e w' => e = .returned (.bool true) ∧ sat W (rns (.slice a1 n c1) l :: rns (.slice a2 n c2) l :: H) w' := by
  obtain ⟨L1, k1⟩ := rns_open hs
  clear hs
  obtain ⟨L2, k2⟩ := rns_open k1.b2
  clear k1
  rw [hl] at k2
  have hs : sat W (own 36 4 (.slice a1 n c1) n L1.flatten :: rnl l L1 :: own 36 4 (.slice a2 n c2) n L2.flatten :: rnl l L2 :: H) w := by (refine sb_from ?_ k2; repeat constructor)
  clear k2
  have R1 := rnl_rows hs.b1
  have R2 := rnl_rows hs.b3
  have S1 : SR 4 W (own 36 4 (.slice a1 n c1) n L1.flatten :: rnl l L1 :: own 36 4 (.slice a2 n c2) n L2.flatten :: rnl l L2 :: H) a1 n c1 L1 := SR.of_own hs (by decide) fun r hr => (R1.2 r hr).1
  have S2 : SR 4 W (own 36 4 (.slice a1 n c1) n L1.flatten :: rnl l L1 :: own 36 4 (.slice a2 n c2) n L2.flatten :: rnl l L2 :: H) a2 n c2 L2 := (SR.of_own hs.b2 (by decide) fun r hr => (R2.2 r hr).1).mono fun w' h => h.b2
  have D1 : ∀ (i : Nat) (x : Run), l[i]? = some x → ∃ c, L1[i]? = some c ∧ RdR W (own 36 4 (.slice a1 n c1) n L1.flatten :: rnl l L1 :: own 36 4 (.slice a2 n c2) n L2.flatten :: rnl l L2 :: H) x c := fun i x hx => rnl_rdr (fun w' h => ⟨_, h.b1⟩) hs hx
  have D2 : ∀ (i : Nat) (x : Run), l[i]? = some x → ∃ c, L2[i]? = some c ∧ RdR W (own 36 4 (.slice a1 n c1) n L1.flatten :: rnl l L1 :: own 36 4 (.slice a2 n c2) n L2.flatten :: rnl l L2 :: H) x c := fun i x hx => rnl_rdr (fun w' h => ⟨_, h.b3⟩) hs hx
  have back : ∀ w', sat W (own 36 4 (.slice a1 n c1) n L1.flatten :: rnl l L1 :: own 36 4 (.slice a2 n c2) n L2.flatten :: rnl l L2 :: H) w' → sat W (rns (.slice a1 n c1) l :: rns (.slice a2 n c2) l :: H) w' := fun w' h => by
    have h1 : sat W (own 36 4 (.slice a2 n c2) l.length L2.flatten :: rnl l L2 :: own 36 4 (.slice a1 n c1) n L1.flatten :: rnl l L1 :: H) w' := by rw [hl]; (refine sb_from ?_ h; repeat constructor)
    have h2 := rns_mk rfl h1
    have h3 : sat W (own 36 4 (.slice a1 n c1) l.length L1.flatten :: rnl l L1 :: rns (.slice a2 n c2) l :: H) w' := by rw [hl]; (refine sb_from ?_ h2; repeat constructor)
    exact rns_mk rfl h3
  exact (same9_rd hl hn S1 S2 D1 D2 hs).mono fun e w' h => ⟨h.1, back w' h.2⟩
end Go.Proofs.Ytkldbppldomjhaa
