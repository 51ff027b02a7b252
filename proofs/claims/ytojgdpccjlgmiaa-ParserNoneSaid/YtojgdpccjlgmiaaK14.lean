/- Law 04: rows of numbers, acts, rows of acts that are alike. -/
import Derived.Test.YtojgdpccjlgmiaaK13
namespace Go.Proofs.Ytojgdpccjlgmiaa
open Go.RowKit Go.Mem Go.Parse
section
variable {W w : World} {H : List HProp}
attribute [local irreducible] World.setCell World.alloc World.drew World.drewN Calls sat cel own blk old
theorem nums22_no (a b : Value) (xs ys : List Int) (w : World) (ha : Reads w a (xs.map (Value.int .i64))) (hb : Reads w b (ys.map (Value.int .i64))) (hne : xs.length ≠ ys.length) :
    Calls Try.prog 22 #[a, b] w fun e w' => e = .returned (.bool (decide (xs = ys))) ∧ ∃ n, w' = w.drewN n := by
  have HF := Lib.hid (show decide (xs = ys) = false by simp; rintro rfl; exact hne rfl)
  obtain ⟨h1, a, c, rfl, _⟩ := ha
  obtain ⟨h2, b, c', rfl, _⟩ := hb
  simp only [List.length_map] at *
  have e1 : ((xs.length : Int) != (ys.length : Int)) = true := by simp; omega
  unfold maxLen at h1 h2
  go_enter Try.func22, Try.ntmps22
  go_wp2
  go_ret
  exact ⟨ret_bool HF.out, 0, (World.drewN_zero w).symm⟩

set_option maxHeartbeats 400000 in
theorem nums22_eq (a b : Value) (xs ys : List Int) (w : World) (ha : Reads w a (xs.map (Value.int .i64))) (hb : Reads w b (ys.map (Value.int .i64))) (hne : xs.length = ys.length) :
    Calls Try.prog 22 #[a, b] w fun e w' => e = .returned (.bool (decide (xs = ys))) ∧ ∃ n, w' = w.drewN n := by
  obtain ⟨h1, a, c, rfl, ka⟩ := ha
  obtain ⟨h2, b, c', rfl, kb⟩ := hb
  simp only [List.length_map] at *
  obtain ⟨n, hn⟩ : ∃ n, n = xs.length := ⟨_, rfl⟩
  have hn2 : n = ys.length := by omega
  have ga : 0 < n → ∃ g off, a = some ⟨g, off, none⟩ ∧ ∀ i, i < n → w.cell? ⟨g, off + i, none⟩ = some (.int .i64 (xs.getD i 0)) := fun hp => by
    obtain ⟨g, off, rfl, hc⟩ := ka (by intro h; simp at h; subst h; simp at hn; omega)
    exact ⟨g, off, rfl, fun i hi => hc i _ (ints_get (by omega))⟩
  have gb : 0 < n → ∃ g off, b = some ⟨g, off, none⟩ ∧ ∀ i, i < n → w.cell? ⟨g, off + i, none⟩ = some (.int .i64 (ys.getD i 0)) := fun hp => by
    obtain ⟨g, off, rfl, hc⟩ := kb (by intro h; simp at h; subst h; simp at hn2; omega)
    exact ⟨g, off, rfl, fun i hi => hc i _ (ints_get (by omega))⟩
  have HN := Lib.hid hn
  have HN2 := Lib.hid hn2
  rw [← hn] at h1
  rw [← hn, ← hn2]
  clear ka kb hne hn hn2 h2
  unfold maxLen at h1
  have e1 : ((n : Int) != (n : Int)) = false := by simp
  have HA := Lib.hid ga
  have HB := Lib.hid gb
  clear ga gb
  go_enter Try.func22, Try.ntmps22
  go_wp2
  go_loopw [5] (fun i wr => ∃ k : Nat, k ≤ n ∧ i = .int .i64 k ∧ (∀ j, j < k → xs.getD j 0 = ys.getD j 0) ∧ ∃ m, wr = w.drewN m) (fun i _ => n - (intOf i).toNat)
  case atStart => exact ⟨0, Nat.zero_le _, rfl, fun j hj => by omega, 0, (World.drewN_zero w).symm⟩
  case round =>
    obtain ⟨k, hk, rfl, hj, m, rfl⟩ := hrel
    have HJ := Lib.hid hj
    clear hj
    by_cases hlt : k < n
    · obtain ⟨g, off, rfl, hc⟩ := HA.out (by omega)
      obtain ⟨g', off', rfl, hc'⟩ := HB.out (by omega)
      have c1 := hc k hlt
      have c2 := hc' k hlt
      clear hc hc'
      generalize hx : xs.getD k 0 = x at *
      generalize hy : ys.getD k 0 = y at *
      have HX := Lib.hid hx
      have HY := Lib.hid hy
      clear hx hy
      by_cases hxy : x = y
      · have e2 : (x != y) = false := by simpa using hxy
        have HXY := Lib.hid hxy
        clear hxy
        go_wp2
        go_quiet (fail)
        go_wp2
        go_roundw
        case rel => exact ⟨k + 1, by omega, by go_num, fun j hj => by
          by_cases e : j = k
          · subst e; rw [HX.out, HY.out, HXY.out]
          · exact HJ.out j (by omega), _, rfl⟩
        case measure => simp [intOf]; omega
      · have e2 : (x != y) = true := by simpa using hxy
        have HF := Lib.hid (show decide (xs = ys) = false by simp; intro h; rw [← HX.out, ← HY.out, h] at hxy; exact hxy rfl)
        clear hxy
        go_wp2
        go_quiet (fail)
        go_wp2
        go_ret
        exact ⟨ret_bool HF.out, _, World.drewN_drewN _ _ _⟩
    · have HF := Lib.hid (show decide (xs = ys) = true by
        simp only [decide_eq_true_eq]
        have h1 := HN.out
        have h2 := HN2.out
        apply List.ext_getElem (by omega)
        intro i h3 h4
        have := HJ.out i (by omega)
        rw [List.getD_eq_getElem?_getD, List.getD_eq_getElem?_getD, List.getElem?_eq_getElem h3, List.getElem?_eq_getElem h4] at this
        exact this)
      go_wp2
      go_ret
      exact ⟨ret_bool HF.out, _, rfl⟩

theorem nums22_any (a b : Value) (xs ys : List Int) (w : World) (ha : Reads w a (xs.map (Value.int .i64))) (hb : Reads w b (ys.map (Value.int .i64))) :
    Calls Try.prog 22 #[a, b] w fun e w' => e = .returned (.bool (decide (xs = ys))) ∧ ∃ n, w' = w.drewN n := by
  by_cases h : xs.length = ys.length
  · exact nums22_eq a b xs ys w ha hb h
  · exact nums22_no a b xs ys w ha hb h

theorem runes23_no (a b : Value) (xs ys : List Int) (w : World) (ha : Reads w a (xs.map (Value.int .i32))) (hb : Reads w b (ys.map (Value.int .i32))) (hne : xs.length ≠ ys.length) :
    Calls Try.prog 23 #[a, b] w fun e w' => e = .returned (.bool (decide (xs = ys))) ∧ ∃ n, w' = w.drewN n := by
  have HF := Lib.hid (show decide (xs = ys) = false by simp; rintro rfl; exact hne rfl)
  obtain ⟨h1, a, c, rfl, _⟩ := ha
  obtain ⟨h2, b, c', rfl, _⟩ := hb
  simp only [List.length_map] at *
  have e1 : ((xs.length : Int) != (ys.length : Int)) = true := by simp; omega
  unfold maxLen at h1 h2
  go_enter Try.func23, Try.ntmps23
  go_wp2
  go_ret
  exact ⟨ret_bool HF.out, 0, (World.drewN_zero w).symm⟩

set_option maxHeartbeats 400000 in
theorem runes23_eq (a b : Value) (xs ys : List Int) (w : World) (ha : Reads w a (xs.map (Value.int .i32))) (hb : Reads w b (ys.map (Value.int .i32))) (hne : xs.length = ys.length) :
    Calls Try.prog 23 #[a, b] w fun e w' => e = .returned (.bool (decide (xs = ys))) ∧ ∃ n, w' = w.drewN n := by
  obtain ⟨h1, a, c, rfl, ka⟩ := ha
  obtain ⟨h2, b, c', rfl, kb⟩ := hb
  simp only [List.length_map] at *
  obtain ⟨n, hn⟩ : ∃ n, n = xs.length := ⟨_, rfl⟩
  have hn2 : n = ys.length := by omega
  have ga : 0 < n → ∃ g off, a = some ⟨g, off, none⟩ ∧ ∀ i, i < n → w.cell? ⟨g, off + i, none⟩ = some (.int .i32 (xs.getD i 0)) := fun hp => by
    obtain ⟨g, off, rfl, hc⟩ := ka (by intro h; simp at h; subst h; simp at hn; omega)
    exact ⟨g, off, rfl, fun i hi => hc i _ (ints_get (by omega))⟩
  have gb : 0 < n → ∃ g off, b = some ⟨g, off, none⟩ ∧ ∀ i, i < n → w.cell? ⟨g, off + i, none⟩ = some (.int .i32 (ys.getD i 0)) := fun hp => by
    obtain ⟨g, off, rfl, hc⟩ := kb (by intro h; simp at h; subst h; simp at hn2; omega)
    exact ⟨g, off, rfl, fun i hi => hc i _ (ints_get (by omega))⟩
  have HN := Lib.hid hn
  have HN2 := Lib.hid hn2
  rw [← hn] at h1
  rw [← hn, ← hn2]
  clear ka kb hne hn hn2 h2
  unfold maxLen at h1
  have e1 : ((n : Int) != (n : Int)) = false := by simp
  have HA := Lib.hid ga
  have HB := Lib.hid gb
  clear ga gb
  go_enter Try.func23, Try.ntmps23
  go_wp2
  go_loopw [5] (fun i wr => ∃ k : Nat, k ≤ n ∧ i = .int .i64 k ∧ (∀ j, j < k → xs.getD j 0 = ys.getD j 0) ∧ ∃ m, wr = w.drewN m) (fun i _ => n - (intOf i).toNat)
  case atStart => exact ⟨0, Nat.zero_le _, rfl, fun j hj => by omega, 0, (World.drewN_zero w).symm⟩
  case round =>
    obtain ⟨k, hk, rfl, hj, m, rfl⟩ := hrel
    have HJ := Lib.hid hj
    clear hj
    by_cases hlt : k < n
    · obtain ⟨g, off, rfl, hc⟩ := HA.out (by omega)
      obtain ⟨g', off', rfl, hc'⟩ := HB.out (by omega)
      have c1 := hc k hlt
      have c2 := hc' k hlt
      clear hc hc'
      generalize hx : xs.getD k 0 = x at *
      generalize hy : ys.getD k 0 = y at *
      have HX := Lib.hid hx
      have HY := Lib.hid hy
      clear hx hy
      by_cases hxy : x = y
      · have e2 : (x != y) = false := by simpa using hxy
        have HXY := Lib.hid hxy
        clear hxy
        go_wp2
        go_quiet (fail)
        go_wp2
        go_roundw
        case rel => exact ⟨k + 1, by omega, by go_num, fun j hj => by
          by_cases e : j = k
          · subst e; rw [HX.out, HY.out, HXY.out]
          · exact HJ.out j (by omega), _, rfl⟩
        case measure => simp [intOf]; omega
      · have e2 : (x != y) = true := by simpa using hxy
        have HF := Lib.hid (show decide (xs = ys) = false by simp; intro h; rw [← HX.out, ← HY.out, h] at hxy; exact hxy rfl)
        clear hxy
        go_wp2
        go_quiet (fail)
        go_wp2
        go_ret
        exact ⟨ret_bool HF.out, _, World.drewN_drewN _ _ _⟩
    · have HF := Lib.hid (show decide (xs = ys) = true by
        simp only [decide_eq_true_eq]
        have h1 := HN.out
        have h2 := HN2.out
        apply List.ext_getElem (by omega)
        intro i h3 h4
        have := HJ.out i (by omega)
        rw [List.getD_eq_getElem?_getD, List.getD_eq_getElem?_getD, List.getElem?_eq_getElem h3, List.getElem?_eq_getElem h4] at this
        exact this)
      go_wp2
      go_ret
      exact ⟨ret_bool HF.out, _, rfl⟩

theorem runes23_any (a b : Value) (xs ys : List Int) (w : World) (ha : Reads w a (xs.map (Value.int .i32))) (hb : Reads w b (ys.map (Value.int .i32))) :
    Calls Try.prog 23 #[a, b] w fun e w' => e = .returned (.bool (decide (xs = ys))) ∧ ∃ n, w' = w.drewN n := by
  by_cases h : xs.length = ys.length
  · exact runes23_eq a b xs ys w ha hb h
  · exact runes23_no a b xs ys w ha hb h


theorem nums22 {a b : Value} {xs : List Int} (ha : Reads w a (ints xs)) (hb : Reads w b (ints xs)) (hs : sat W H w) : Calls Try.prog 22 #[a, b] w fun e w' => e = .returned (.bool true) ∧ sat W H w' :=
  (nums22_any a b xs xs w ha hb).mono fun e w' ⟨he, n, hn⟩ => ⟨by rw [he, decide_eq_true rfl], by rw [hn]; exact hs.drewN n⟩
theorem runes23 {a b : Value} {xs : List Int} (ha : Reads w a (runes xs)) (hb : Reads w b (runes xs)) (hs : sat W H w) : Calls Try.prog 23 #[a, b] w fun e w' => e = .returned (.bool true) ∧ sat W H w' :=
  (runes23_any a b xs xs w ha hb).mono fun e w' ⟨he, n, hn⟩ => ⟨by rw [he, decide_eq_true rfl], by rw [hn]; exact hs.drewN n⟩
end
variable {W w : World} {H : List HProp}
/-- An act's cells, and what its slices read as, in every world that meets H. -/
def RdA (W : World) (H : List HProp) (x : Ac) (c : List Value) : Prop := ∃ (aP aI aT : Option Addr) (cP cI cT : Nat), c = acC x (.slice aP x.params.length cP) (.slice aI x.inter.length cI) (.slice aT x.text.length cT) ∧
  ∀ w', sat W H w' → Reads w' (.slice aP x.params.length cP) (ints x.params) ∧ Reads w' (.slice aI x.inter.length cI) (runes x.inter) ∧ Reads w' (.slice aT x.text.length cT) (runes x.text)
theorem acl_get : ∀ {l : List Ac} {L : List (List Value)} {H : List HProp} {i : Nat} {x : Ac}, sat W (acl l L :: H) w → l[i]? = some x → ∃ c, L[i]? = some c ∧ sat W (acO x c :: H) w
  | [], _, _, i, x, _, h => by simp at h
  | _ :: _, [], _, _, _, hs, _ => by
    have hs : sat W (pur False :: _) w := hs
    exact hs.pure.elim
  | y :: l, c :: L, H, i, x, hs, h => by
    have hs : sat W (star (acO y c) (acl l L) :: _) w := hs
    have hs := hs.unstar
    cases i with
    | zero =>
      simp only [List.getElem?_cons_zero, Option.some.injEq] at h
      subst h
      exact ⟨c, rfl, hs.b1.drop⟩
    | succ i =>
      rw [List.getElem?_cons_succ] at h ⊢
      exact acl_get hs.drop h
theorem acO_reads {x : Ac} {c : List Value} (hs : sat W (acO x c :: H) w) : ∃ (aP aI aT : Option Addr) (cP cI cT : Nat), c = acC x (.slice aP x.params.length cP) (.slice aI x.inter.length cI) (.slice aT x.text.length cT) ∧
    Reads w (.slice aP x.params.length cP) (ints x.params) ∧ Reads w (.slice aI x.inter.length cI) (runes x.inter) ∧ Reads w (.slice aT x.text.length cT) (runes x.text) := by
  obtain ⟨aP, hs⟩ := hs.ex
  obtain ⟨cP, hs⟩ := hs.ex
  obtain ⟨aI, hs⟩ := hs.ex
  obtain ⟨cI, hs⟩ := hs.ex
  obtain ⟨aT, hs⟩ := hs.ex
  obtain ⟨cT, hs⟩ := hs.ex
  obtain ⟨e, hs⟩ := hs.and_pure
  have hs := hs.unstar
  have h2 := hs.b1.unstar
  exact ⟨aP, aI, aT, cP, cI, cT, e, hs.own_reads.1, h2.own_reads.1, h2.b1.own_reads.1⟩
theorem acl_rda {l : List Ac} {L : List (List Value)} {H : List HProp} {i : Nat} {x : Ac} (hg : ∀ w', sat W H w' → ∃ H', sat W (acl l L :: H') w') (hs : sat W H w) (h : l[i]? = some x) : ∃ c, L[i]? = some c ∧ RdA W H x c := by
  obtain ⟨H', h1⟩ := hg w hs
  obtain ⟨c, hc, h2⟩ := acl_get h1 h
  obtain ⟨aP, aI, aT, cP, cI, cT, e, _⟩ := acO_reads h2
  refine ⟨c, hc, aP, aI, aT, cP, cI, cT, e, fun w' hw' => ?_⟩
  obtain ⟨H2, k1⟩ := hg w' hw'
  obtain ⟨c', hc', k2⟩ := acl_get k1 h
  rw [hc] at hc'
  cases hc'
  obtain ⟨aP', aI', aT', cP', cI', cT', e', r1, r2, r3⟩ := acO_reads k2
  rw [e] at e'
  unfold acC at e'
  simp only [List.cons.injEq, Value.slice.injEq, true_and, and_true] at e'
  obtain ⟨⟨rfl, rfl⟩, ⟨rfl, rfl⟩, rfl, rfl⟩ := e'
  exact ⟨r1, r2, r3⟩
theorem RdA.more {A : HProp} {x : Ac} {c : List Value} (h : RdA W H x c) : RdA W (A :: H) x c := by
  obtain ⟨aP, aI, aT, cP, cI, cT, e, r⟩ := h
  exact ⟨aP, aI, aT, cP, cI, cT, e, fun w' hs => r w' hs.drop⟩
attribute [local irreducible] World.setCell World.setCells World.alloc World.drew World.drewN Calls sat cel own blk old wpQuiet wpList pm values digit next acs
variable {b : Nat} {st pr : Int} {L : PL} {I T : List Int} {ov : Bool} {p : Ps} {H : List HProp}
theorem sameact11 {x : Ac} {c1 c2 : List Value} (h1 : RdA W H x c1) (h2 : RdA W H x c2) (hs : sat W H w) : Calls Try.prog 11 #[.agg c1.toArray, .agg c2.toArray] w fun e w' => e = .returned (.bool true) ∧ sat W H w' := by
  obtain ⟨aP, aI, aT, cP, cI, cT, rfl, r1⟩ := h1
  obtain ⟨aP2, aI2, aT2, cP2, cI2, cT2, rfl, r2⟩ := h2
  have R1 := Lib.hid r1
  have R2 := Lib.hid r2
  clear r1 r2
  unfold acC
  go_enter Try.func11, Try.ntmps11
  go_wp2_with (first | (go_at_call 22; refine (nums22 (R1.out _ (hs.dropN 2)).1 (R2.out _ (hs.dropN 2)).1 hs).mono ?_; clear hs; rintro e w ⟨rfl, hs⟩) | (go_at_call 23; refine (runes23 (R1.out _ (hs.dropN 2)).2.1 (R2.out _ (hs.dropN 2)).2.1 hs).mono ?_; clear hs; rintro e w ⟨rfl, hs⟩) | (go_at_call 23; refine (runes23 (R1.out _ (hs.dropN 2)).2.2 (R2.out _ (hs.dropN 2)).2.2 hs).mono ?_; clear hs; rintro e w ⟨rfl, hs⟩) | ((with_reducible refine isl ?_); first | ((with_reducible apply ld hs.b0); exact rfl; exact rfl; exact rfl; exact rfl; kernel_rfl) | ((with_reducible apply ld hs.b1); exact rfl; exact rfl; exact rfl; exact rfl; kernel_rfl) | ((with_reducible apply st hs.b0); exact rfl; exact rfl; exact rfl; exact rfl; exact rfl; exact rfl; kernel_rfl; exact rfl; clear hs; intro w hs) | ((with_reducible apply st hs.b1); exact rfl; exact rfl; exact rfl; exact rfl; exact rfl; exact rfl; kernel_rfl; exact rfl; clear hs; intro w hs) | ((with_reducible apply stc hs.b0); exact rfl; exact rfl; exact rfl; exact rfl; exact rfl; kernel_rfl; exact rfl; clear hs; intro w hs) | ((with_reducible apply stc hs.b1); exact rfl; exact rfl; exact rfl; exact rfl; exact rfl; kernel_rfl; exact rfl; clear hs; intro w hs) | ((with_reducible refine wrap hs ?_); clear hs; intro w hs) | ((with_reducible refine wrapn hs ?_); clear hs; intro w hs) | ((with_reducible refine wrapd hs ?_); clear hs; intro w hs)))
  go_ret
  exact ⟨rfl, hs.dropN 2⟩
end Go.Proofs.Ytojgdpccjlgmiaa
