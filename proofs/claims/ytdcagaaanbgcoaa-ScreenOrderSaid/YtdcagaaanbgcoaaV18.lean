/- Law 6: the same cells. -/
import Derived.Test.YtdcagaaanbgcoaaSf
import Derived.Test.YtdcagaaanbgcoaaV15
namespace Go.Proofs.Ytdcagaaanbgcoaa
open Go.RowKit Go.Mem Go.Cells
variable {W w : World} {H : List HProp}
def RC (W : World) (H : List HProp) (a : Option Addr) (n c : Nat) (l : List C) : Prop := ∃ ps : List PC, ps.map (·.c) = l ∧ SR 6 W H a n c (rws ps) ∧ ∀ p ∈ ps, ∀ w', sat W H w' → Reads w' (pcS p) (runes p.c.comb)
attribute [local irreducible] rowTy oneTy World.setCell World.setCells World.alloc World.drew World.drewN Calls sat cel own blk old wpQuiet wpList cmb cmb1 rwP cls rws wi wh fst_ World.rangeAt
theorem samecell16_no {c d : C} {a1 a2 : Option Addr} {n1 n2 p1 p2 : Nat} (hne : ¬ (c.r = d.r ∧ c.w = d.w ∧ c.a = d.a ∧ n1 = n2)) (hs : sat W H w) : Calls Try.prog 78 #[cA c (.slice a1 n1 p1), cA d (.slice a2 n2 p2)] w fun e w' => e = .returned (.bool false) ∧ sat W H w' := by
  obtain ⟨r, cb, wd, ⟨fg, bg, fl⟩⟩ := c
  obtain ⟨r', cb', wd', ⟨fg', bg', fl'⟩⟩ := d
  simp only at hne
  by_cases h1 : r = r'
  · subst h1
    by_cases h2 : wd = wd'
    · subst h2
      by_cases h3 : fg = fg' ∧ bg = bg' ∧ fl = fl'
      · obtain ⟨rfl, rfl, rfl⟩ := h3
        have h4 : ¬ n1 = n2 := fun h => hne ⟨rfl, rfl, rfl, h⟩
        have h5 : ¬ (n1 : Int) = (n2 : Int) := by omega
        clear hne
        go_enter Try.func78, Try.ntmps78
        go_wp2_with (((with_reducible refine isl ?_); first | ((with_reducible apply ldsx 3); exact rfl; exact rfl; exact rfl; (first | exact hs.b0 | exact hs.b1); exact row33; exact rfl; exact rfl) | ((with_reducible apply ldx); exact rfl; exact rfl; exact rfl; (first | exact hs.b0 | exact hs.b1); exact rfl; kernel_rfl) | ((with_reducible refine wrap hs ?_); clear hs; (first | (have _t := z4; clear _t; generalize w.heap.size = z5) | generalize w.heap.size = z4); intro w hs)))
        go_ret
        exact ⟨rfl, hs.dropN 2⟩
      · by_cases h4 : fg = fg'
        · subst h4
          by_cases h5 : bg = bg'
          · subst h5
            have h6 : ¬ fl = fl' := fun h => h3 ⟨rfl, rfl, h⟩
            have q1 : (fl == fl') = false := beq_eq_false_iff_ne.2 h6
            have q2 : decide (fl = fl') = false := decide_eq_false h6
            clear hne h3
            go_enter Try.func78, Try.ntmps78
            go_wp2_with (((with_reducible refine isl ?_); first | ((with_reducible apply ldsx 3); exact rfl; exact rfl; exact rfl; (first | exact hs.b0 | exact hs.b1); exact row33; exact rfl; exact rfl) | ((with_reducible apply ldx); exact rfl; exact rfl; exact rfl; (first | exact hs.b0 | exact hs.b1); exact rfl; kernel_rfl) | ((with_reducible refine wrap hs ?_); clear hs; (first | (have _t := z4; clear _t; generalize w.heap.size = z5) | generalize w.heap.size = z4); intro w hs)))
            go_ret
            exact ⟨rfl, hs.dropN 2⟩
          · have q1 : (bg == bg') = false := beq_eq_false_iff_ne.2 h5
            have q2 : decide (bg = bg') = false := decide_eq_false h5
            clear hne h3
            go_enter Try.func78, Try.ntmps78
            go_wp2_with (((with_reducible refine isl ?_); first | ((with_reducible apply ldsx 3); exact rfl; exact rfl; exact rfl; (first | exact hs.b0 | exact hs.b1); exact row33; exact rfl; exact rfl) | ((with_reducible apply ldx); exact rfl; exact rfl; exact rfl; (first | exact hs.b0 | exact hs.b1); exact rfl; kernel_rfl) | ((with_reducible refine wrap hs ?_); clear hs; (first | (have _t := z4; clear _t; generalize w.heap.size = z5) | generalize w.heap.size = z4); intro w hs)))
            go_ret
            exact ⟨rfl, hs.dropN 2⟩
        · have q1 : (fg == fg') = false := beq_eq_false_iff_ne.2 h4
          have q2 : decide (fg = fg') = false := decide_eq_false h4
          clear hne h3
          go_enter Try.func78, Try.ntmps78
          go_wp2_with (((with_reducible refine isl ?_); first | ((with_reducible apply ldsx 3); exact rfl; exact rfl; exact rfl; (first | exact hs.b0 | exact hs.b1); exact row33; exact rfl; exact rfl) | ((with_reducible apply ldx); exact rfl; exact rfl; exact rfl; (first | exact hs.b0 | exact hs.b1); exact rfl; kernel_rfl) | ((with_reducible refine wrap hs ?_); clear hs; (first | (have _t := z4; clear _t; generalize w.heap.size = z5) | generalize w.heap.size = z4); intro w hs)))
          go_ret
          exact ⟨rfl, hs.dropN 2⟩
    · have q1 : (wd == wd') = false := beq_eq_false_iff_ne.2 h2
      have q2 : decide (wd = wd') = false := decide_eq_false h2
      have q3 : (wd != wd') = true := bne_iff_ne.2 h2
      clear hne
      go_enter Try.func78, Try.ntmps78
      go_wp2_with (((with_reducible refine isl ?_); first | ((with_reducible apply ldx); exact rfl; exact rfl; exact rfl; (first | exact hs.b0 | exact hs.b1); exact rfl; kernel_rfl) | ((with_reducible refine wrap hs ?_); clear hs; (first | (have _t := z4; clear _t; generalize w.heap.size = z5) | generalize w.heap.size = z4); intro w hs)))
      go_ret
      exact ⟨rfl, hs.dropN 2⟩
  · have q1 : (r == r') = false := beq_eq_false_iff_ne.2 h1
    have q2 : decide (r = r') = false := decide_eq_false h1
    have q3 : (r != r') = true := bne_iff_ne.2 h1
    clear hne
    go_enter Try.func78, Try.ntmps78
    go_wp2_with (((with_reducible refine isl ?_); first | ((with_reducible apply ldx); exact rfl; exact rfl; exact rfl; (first | exact hs.b0 | exact hs.b1); exact rfl; kernel_rfl) | ((with_reducible refine wrap hs ?_); clear hs; (first | (have _t := z4; clear _t; generalize w.heap.size = z5) | generalize w.heap.size = z4); intro w hs)))
    go_ret
    exact ⟨rfl, hs.dropN 2⟩
theorem samecell16_eq {c d : C} {a1 a2 : Option Addr} {n p1 p2 : Nat} (he : c.r = d.r ∧ c.w = d.w ∧ c.a = d.a) (h1 : c.comb.length = n) (h2 : d.comb.length = n) (h1000 : n ≤ 1000) (R1 : ∀ w', sat W H w' → Reads w' (.slice a1 n p1) (runes c.comb)) (R2 : ∀ w', sat W H w' → Reads w' (.slice a2 n p2) (runes d.comb)) (hs : sat W H w) : Calls Try.prog 78 #[cA c (.slice a1 n p1), cA d (.slice a2 n p2)] w fun e w' => e = .returned (.bool (decide (c = d))) ∧ sat W H w' := by
  obtain ⟨r, cb, wd, at_⟩ := c
  obtain ⟨r', cb', wd', at_'⟩ := d
  simp only at he h1 h2 R1 R2
  obtain ⟨rfl, rfl, rfl⟩ := he
  have HEQ : Hid (decide ((⟨r, cb, wd, at_⟩ : C) = ⟨r, cb', wd, at_⟩) = decide (cb = cb')) := Lib.hid (decide_eq_decide.2 (by constructor <;> intro h; exact (C.mk.inj h).2.1; rw [h]))
  have H1 := Lib.hid h1
  have H2 := Lib.hid h2
  have HR1 := Lib.hid R1
  have HR2 := Lib.hid R2
  clear h1 h2 R1 R2
  rw [HEQ.out]
  go_enter Try.func78, Try.ntmps78
  go_wp2_with (((with_reducible refine isl ?_); first | ((with_reducible apply ldsx 3); exact rfl; exact rfl; exact rfl; (first | exact hs.b0 | exact hs.b1); exact row33; exact rfl; exact rfl) | ((with_reducible apply ldx); exact rfl; exact rfl; exact rfl; (first | exact hs.b0 | exact hs.b1); exact rfl; kernel_rfl) | ((with_reducible refine wrap hs ?_); clear hs; (first | (have _t := z4; clear _t; generalize w.heap.size = z5) | generalize w.heap.size = z4); intro w hs)))
  go_loopw [5] (fun i wx => ∃ i0 : Nat, i0 ≤ n ∧ i = .int .i64 (i0 : Int) ∧ Hid (∀ j, j < i0 → cb.getD j 0 = cb'.getD j 0) ∧ sat W (cel z5 110 (cV ⟨r, cb', wd, at_⟩ (.slice a2 n p2)) :: cel z4 110 (cV ⟨r, cb, wd, at_⟩ (.slice a1 n p1)) :: H) wx) (fun i _ => ((n : Int) - intOf i).toNat)
  case atStart => exact ⟨0, Nat.zero_le _, rfl, Lib.hid (fun j hj => by omega), by refine sb_from ?_ hs; repeat constructor⟩
  case round =>
    clear hs
    obtain ⟨i0, hi, rfl, HI, hs⟩ := hrel
    by_cases hin : i0 < n
    · obtain ⟨hz1, g1, o1, rfl, k1⟩ := reads_cells HR1.out (hs.dropN 2) (by rw [runes_len, H1.out]; omega)
      obtain ⟨hz2, g2, o2, rfl, k2⟩ := reads_cells HR2.out (hs.dropN 2) (by rw [runes_len, H2.out]; omega)
      have HK1 : Hid (∀ w', sat W H w' → w'.cell? ⟨g1, o1 + i0, none⟩ = some (.int .i32 (cb.getD i0 0))) := Lib.hid fun w' h => k1 w' h i0 _ (ints_get (by rw [H1.out]; exact hin))
      have HK2 : Hid (∀ w', sat W H w' → w'.cell? ⟨g2, o2 + i0, none⟩ = some (.int .i32 (cb'.getD i0 0))) := Lib.hid fun w' h => k2 w' h i0 _ (ints_get (by rw [H2.out]; exact hin))
      clear k1 k2 hz1 hz2
      obtain ⟨x, hx⟩ : ∃ x, cb.getD i0 0 = x := ⟨_, rfl⟩
      obtain ⟨y, hy⟩ : ∃ y, cb'.getD i0 0 = y := ⟨_, rfl⟩
      rw [hx] at HK1
      rw [hy] at HK2
      have HX := Lib.hid hx
      have HY := Lib.hid hy
      clear hx hy
      by_cases hxy : x = y
      · have HXY := Lib.hid hxy
        have q1 : (x != y) = false := by rw [bne_eq_false_iff_eq]; exact hxy
        clear hxy
        go_wp2_with (((with_reducible refine isl ?_); first | ((with_reducible apply ldx); exact rfl; exact rfl; exact rfl; (exact hs.b1); exact rfl; kernel_rfl)))
        refine region_mix [] [0, 1, 2, 3, 4, 5, 6, 7, 8, 9, 10] hs (fun _ h => h) (by kernel_rfl) (by kernel_rfl) (fun _ _ _ _ _ h => h) ?_
        simp only [segs, nths, nth, List.append_nil, List.nil_append, List.cons_append, List.map_cons, List.map_nil]
        refine seg_last (fun _ h => h) ?_; intro X f hne hf hcl; (try simp only [Act.put, List.setIfInBounds_toArray, List.set_cons_succ, List.set_cons_zero]); (repeat ((first | (apply ldcq; exact rfl; exact rfl; exact rfl; exact fun y => HK1.out _ ((hf y).dropN 2); exact one21) | (apply ldcq; exact rfl; exact rfl; exact rfl; exact fun y => HK2.out _ ((hf y).dropN 2); exact one21) | ((with_reducible apply ldqx); exact rfl; exact rfl; exact rfl; (first | exact fun x => (hf x).b0 | exact fun x => (hf x).b1); exact rfl; kernel_rfl) | go_big_quiet_step (fail)); (try simp only [Act.put, List.setIfInBounds_toArray, List.set_cons_succ, List.set_cons_zero]))); refine wpQuiet_nil ?_; clear hcl hf hne hs f X; intro w hs
        go_wp2_with fail
        go_roundw
        case rel => exact ⟨i0 + 1, by omega, by go_num, Lib.hid (fun j hj => by
          by_cases e : j = i0
          · rw [e, HX.out, HY.out, HXY.out]
          · exact HI.out j (by omega)), by refine sb_from ?_ hs; repeat constructor⟩
        case measure => simp [intOf]; omega
      · have HF : Hid (decide (cb = cb') = false) := Lib.hid (decide_eq_false fun h => hxy (by rw [← HX.out, ← HY.out, h]))
        have q1 : (x != y) = true := bne_iff_ne.2 hxy
        clear hxy
        go_wp2_with (((with_reducible refine isl ?_); first | ((with_reducible apply ldx); exact rfl; exact rfl; exact rfl; (exact hs.b1); exact rfl; kernel_rfl)))
        refine region_mix [] [0, 1, 2, 3, 4, 5, 6, 7, 8, 9, 10] hs (fun _ h => h) (by kernel_rfl) (by kernel_rfl) (fun _ _ _ _ _ h => h) ?_
        simp only [segs, nths, nth, List.append_nil, List.nil_append, List.cons_append, List.map_cons, List.map_nil]
        refine seg_last (fun _ h => h) ?_; intro X f hne hf hcl; (try simp only [Act.put, List.setIfInBounds_toArray, List.set_cons_succ, List.set_cons_zero]); (repeat ((first | (apply ldcq; exact rfl; exact rfl; exact rfl; exact fun y => HK1.out _ ((hf y).dropN 2); exact one21) | (apply ldcq; exact rfl; exact rfl; exact rfl; exact fun y => HK2.out _ ((hf y).dropN 2); exact one21) | ((with_reducible apply ldqx); exact rfl; exact rfl; exact rfl; (first | exact fun x => (hf x).b0 | exact fun x => (hf x).b1); exact rfl; kernel_rfl) | go_big_quiet_step (fail)); (try simp only [Act.put, List.setIfInBounds_toArray, List.set_cons_succ, List.set_cons_zero]))); refine wpQuiet_nil ?_; clear hcl hf hne hs f X; intro w hs
        go_wp2_with fail
        go_ret
        exact ⟨ret_bool HF.out, hs.dropN 2⟩
    · have hge : ¬ (i0 : Int) < (n : Int) := by omega
      have HF : Hid (decide (cb = cb') = true) := Lib.hid (decide_eq_true (by
        apply List.ext_getElem (by rw [H1.out, H2.out])
        intro j h3 h4
        have := HI.out j (by have := H1.out; omega)
        rw [List.getD_eq_getElem?_getD, List.getD_eq_getElem?_getD, List.getElem?_eq_getElem h3, List.getElem?_eq_getElem h4] at this
        exact this))
      clear hin
      go_wp2_with (((with_reducible refine isl ?_); first | ((with_reducible apply ldx); exact rfl; exact rfl; exact rfl; (exact hs.b1); exact rfl; kernel_rfl)))
      go_ret
      exact ⟨ret_bool HF.out, hs.dropN 2⟩
theorem samecell16 {c d : C} {a1 a2 : Option Addr} {n1 n2 p1 p2 : Nat} (h1 : c.comb.length = n1) (h2 : d.comb.length = n2) (h1000 : n1 ≤ 1000) (R1 : ∀ w', sat W H w' → Reads w' (.slice a1 n1 p1) (runes c.comb)) (R2 : ∀ w', sat W H w' → Reads w' (.slice a2 n2 p2) (runes d.comb)) (hs : sat W H w) : Calls Try.prog 78 #[cA c (.slice a1 n1 p1), cA d (.slice a2 n2 p2)] w fun e w' => e = .returned (.bool (decide (c = d))) ∧ sat W H w' := by
  by_cases he : c.r = d.r ∧ c.w = d.w ∧ c.a = d.a ∧ n1 = n2
  · obtain ⟨e1, e2, e3, rfl⟩ := he
    exact samecell16_eq ⟨e1, e2, e3⟩ h1 h2 h1000 R1 R2 hs
  · have hne : decide (c = d) = false := decide_eq_false (by rintro rfl; exact he ⟨rfl, rfl, rfl, h1.symm.trans h2⟩)
    rw [hne]
    exact samecell16_no he hs
theorem RC.len {a : Option Addr} {n c : Nat} {l : List C} (h : RC W H a n c l) : n = l.length := by
  obtain ⟨ps, rfl, S, _⟩ := h
  have := S.len.1
  rw [this, rws_len, List.length_map]
/-- A cell of what reads as cells. -/
theorem RC.get {a : Option Addr} {n c k : Nat} {l : List C} (h : RC W H a n c l) (hs : sat W H w) {x : C} (hx : l[k]? = some x) : ∃ (g off : Nat) (ax : Option Addr) (px : Nat), a = some ⟨g, off, none⟩ ∧ (∀ w', sat W H w' → w'.rangeAt g (off + k * 6) (cV x (.slice ax x.comb.length px))) ∧ ∀ w', sat W H w' → Reads w' (.slice ax x.comb.length px) (runes x.comb) := by
  obtain ⟨ps, rfl, S, R⟩ := h
  rw [List.getElem?_map] at hx
  obtain ⟨y, hy, rfl⟩ : ∃ y, ps[k]? = some y ∧ y.c = x := by
    cases hp : ps[k]? with
    | none => rw [hp] at hx; cases hx
    | some y => rw [hp] at hx; exact ⟨y, rfl, by simpa using hx⟩
  obtain ⟨_, g, off, rfl, hc⟩ := S.get hs (rws_get hy)
  exact ⟨g, off, y.a, y.p, rfl, hc, R y (List.mem_of_getElem? hy)⟩
set_option maxHeartbeats 1000000 in
theorem same15 {a1 a2 : Option Addr} {n1 n2 c1 c2 : Nat} {l m : List C} (h1000 : n1 ≤ 1000) (h4 : ∀ c ∈ l, c.comb.length ≤ 1000) (R1 : RC W H a1 n1 c1 l) (R2 : RC W H a2 n2 c2 m) (hs : sat W H w) : Calls Try.prog 61 #[.slice a1 n1 c1, .slice a2 n2 c2] w fun e w' => e = .returned (.bool (decide (l = m))) ∧ sat W H w' := by
  have H1 := Lib.hid R1.len
  have H2 := Lib.hid R2.len
  have HR1 := Lib.hid R1
  have HR2 := Lib.hid R2
  have H4 := Lib.hid h4
  clear R1 R2 h4
  by_cases hn : n1 = n2
  · subst hn
    go_enter Try.func61, Try.ntmps61
    go_wp2_with fail
    go_loopw [5] (fun i wx => ∃ i0 : Nat, i0 ≤ n1 ∧ i = .int .i64 (i0 : Int) ∧ Hid (l.take i0 = m.take i0) ∧ sat W H wx) (fun i _ => ((n1 : Int) - intOf i).toNat)
    case atStart => exact ⟨0, Nat.zero_le _, rfl, Lib.hid rfl, hs⟩
    case round =>
      clear hs
      obtain ⟨i0, hi, rfl, HI, hs⟩ := hrel
      by_cases hin : i0 < n1
      · obtain ⟨x, hx⟩ : ∃ x, l[i0]? = some x := ⟨_, List.getElem?_eq_getElem (by have := H1.out; omega)⟩
        obtain ⟨y, hy⟩ : ∃ y, m[i0]? = some y := ⟨_, List.getElem?_eq_getElem (by have := H2.out; omega)⟩
        obtain ⟨g1, o1, ax, px, rfl, k1, r1⟩ := HR1.out.get hs hx
        obtain ⟨g2, o2, ay, py, rfl, k2, r2⟩ := HR2.out.get hs hy
        have HK1 := Lib.hid k1
        have HK2 := Lib.hid k2
        have HRX := Lib.hid r1
        have HRY := Lib.hid r2
        have HX := Lib.hid hx
        have HY := Lib.hid hy
        have HX4 : Hid (x.comb.length ≤ 1000) := Lib.hid (H4.out x (List.mem_of_getElem? hx))
        clear hx hy k1 k2 r1 r2
        by_cases hxy : x = y
        · have HXY := Lib.hid hxy
          have HB : Hid (decide (x = y) = true) := Lib.hid (decide_eq_true hxy)
          clear hxy
          go_wp2_with fail
          refine region_mix [([0, 1, 2, 3, 4, 5, 6, 7], [8])] [9] hs (fun _ h => h) (by kernel_rfl) (by kernel_rfl) (fun _ _ _ _ _ h => h) ?_
          simp only [segs, nths, nth, List.append_nil, List.nil_append, List.cons_append, List.map_cons, List.map_nil]
          refine seg_reads (fun _ h => h) ?_; intro X f hne hf hcl; (try simp only [Act.put, List.setIfInBounds_toArray, List.set_cons_succ, List.set_cons_zero]); (repeat ((first | ((with_reducible apply ldscq (cs := cV x (.slice ax x.comb.length px))); exact rfl; exact rfl; exact rfl; exact fun y => HK1.out _ (hf y); exact row41) | ((with_reducible apply ldscq (cs := cV y (.slice ay y.comb.length py))); exact rfl; exact rfl; exact rfl; exact fun y => HK2.out _ (hf y); exact row41) | go_big_quiet_step (fail)); (try simp only [Act.put, List.setIfInBounds_toArray, List.set_cons_succ, List.set_cons_zero]))); refine wpQuiet_nil ?_; clear hcl hf hne hs f X; intro w hs
          go_wp2_with ((go_at_call 78; refine (samecell16 rfl rfl HX4.out HRX.out HRY.out hs).mono ?_; clear hs; rintro e w ⟨rfl, hs⟩; rw [HB.out]))
          ((refine seg_on hs (by first | exact fun _ h => h) (fun _ h => h) ?_; clear hs; intro hs))
          refine seg_last (fun _ h => h) ?_; intro X f hne hf hcl; (try simp only [Act.put, List.setIfInBounds_toArray, List.set_cons_succ, List.set_cons_zero]); (repeat ((go_big_quiet_step (fail)); (try simp only [Act.put, List.setIfInBounds_toArray, List.set_cons_succ, List.set_cons_zero]))); refine wpQuiet_nil ?_; clear hcl hf hne hs f X; intro w hs
          go_wp2_with fail
          go_roundw
          case rel => exact ⟨i0 + 1, by omega, by go_num, Lib.hid (by rw [List.take_add_one, List.take_add_one, HX.out, HY.out, HI.out, HXY.out]), hs⟩
          case measure => simp [intOf]; omega
        · have HB : Hid (decide (x = y) = false) := Lib.hid (decide_eq_false hxy)
          have HF : Hid (decide (l = m) = false) := Lib.hid (decide_eq_false fun h => hxy (by
            have h1 := HX.out
            rw [h, HY.out] at h1
            exact (Option.some.inj h1).symm))
          clear hxy
          go_wp2_with fail
          refine region_mix [([0, 1, 2, 3, 4, 5, 6, 7], [8])] [9] hs (fun _ h => h) (by kernel_rfl) (by kernel_rfl) (fun _ _ _ _ _ h => h) ?_
          simp only [segs, nths, nth, List.append_nil, List.nil_append, List.cons_append, List.map_cons, List.map_nil]
          refine seg_reads (fun _ h => h) ?_; intro X f hne hf hcl; (try simp only [Act.put, List.setIfInBounds_toArray, List.set_cons_succ, List.set_cons_zero]); (repeat ((first | ((with_reducible apply ldscq (cs := cV x (.slice ax x.comb.length px))); exact rfl; exact rfl; exact rfl; exact fun y => HK1.out _ (hf y); exact row41) | ((with_reducible apply ldscq (cs := cV y (.slice ay y.comb.length py))); exact rfl; exact rfl; exact rfl; exact fun y => HK2.out _ (hf y); exact row41) | go_big_quiet_step (fail)); (try simp only [Act.put, List.setIfInBounds_toArray, List.set_cons_succ, List.set_cons_zero]))); refine wpQuiet_nil ?_; clear hcl hf hne hs f X; intro w hs
          go_wp2_with ((go_at_call 78; refine (samecell16 rfl rfl HX4.out HRX.out HRY.out hs).mono ?_; clear hs; rintro e w ⟨rfl, hs⟩; rw [HB.out]))
          ((refine seg_on hs (by first | exact fun _ h => h) (fun _ h => h) ?_; clear hs; intro hs))
          refine seg_last (fun _ h => h) ?_; intro X f hne hf hcl; (try simp only [Act.put, List.setIfInBounds_toArray, List.set_cons_succ, List.set_cons_zero]); (repeat ((go_big_quiet_step (fail)); (try simp only [Act.put, List.setIfInBounds_toArray, List.set_cons_succ, List.set_cons_zero]))); refine wpQuiet_nil ?_; clear hcl hf hne hs f X; intro w hs
          go_wp2_with fail
          go_ret
          exact ⟨ret_bool HF.out, hs⟩
      · have hge : ¬ (i0 : Int) < (n1 : Int) := by omega
        have HF : Hid (decide (l = m) = true) := Lib.hid (decide_eq_true (by
          have h := HI.out
          rwa [List.take_of_length_le (by have := H1.out; omega), List.take_of_length_le (by have := H2.out; omega)] at h))
        clear hin
        go_wp2_with fail
        go_ret
        exact ⟨ret_bool HF.out, hs⟩
  · have HF : Hid (decide (l = m) = false) := Lib.hid (decide_eq_false (by rintro rfl; exact hn (H1.out.trans H2.out.symm)))
    have q1 : ((n1 : Int) != (n2 : Int)) = true := bne_iff_ne.2 (by omega)
    have q2 : ¬ (n1 : Int) = (n2 : Int) := by omega
    go_enter Try.func61, Try.ntmps61
    go_wp2_with fail
    go_ret
    exact ⟨ret_bool HF.out, hs⟩
end Go.Proofs.Ytdcagaaanbgcoaa
namespace Go.Proofs.Ytdcagaaanbgcoaa
open Go.Cells
/-- Cells with their places. -/
def seg : Int → List C → List (C × Int)
  | _, [] => []
  | k, c :: l => (c, k) :: seg (k + 1) l
theorem seg_length : ∀ (k : Int) (l : List C), (seg k l).length = l.length
  | _, [] => rfl
  | k, c :: l => by unfold seg; rw [List.length_cons, List.length_cons, seg_length]
theorem zip_seg : ∀ (l : List C) (W : List Int) (k : Int), W.length = l.length → (∀ i, i < l.length → W[i]? = some (k + i)) → l.zip W = seg k l
  | [], W, k, h, _ => by simp [seg]
  | c :: l, [], k, h, _ => by simp at h
  | c :: l, x :: W, k, h, hw => by
    have h0 := hw 0 (by simp)
    simp at h0
    subst h0
    rw [List.zip_cons_cons, seg, zip_seg l W (x + 1) (by simpa using h) fun i hi => by
      have := hw (i + 1) (by simpa using hi)
      simp only [List.getElem?_cons_succ] at this
      rw [this]
      congr 1
      push_cast
      omega]
theorem wh_cons_ok {p : Option Int} {c : C} {k : Int} {r : List (C × Int)} (h : ¬ alone p c k (r.head?.map (·.2))) : wh p ((c, k) :: r) = c :: wh (some k) r := by rw [wh, if_neg h]
theorem wh_cons_alone {p : Option Int} {c : C} {k : Int} {r : List (C × Int)} (h : alone p c k (r.head?.map (·.2))) : wh p ((c, k) :: r) = bC c.a :: wh (some (-2)) r := by rw [wh, if_pos h]
theorem wh_ok {A : List C} (h : Ok A) : ∀ (k : Int) (p : Option Int) (r : List (C × Int)), 0 ≤ k → ∃ q, ((A = [] ∧ q = p) ∨ (A ≠ [] ∧ q = some (k + A.length - 1))) ∧ wh p (seg k A ++ r) = A ++ wh q r := by
  induction h with
  | nil => exact fun k p r _ => ⟨p, .inl ⟨rfl, rfl⟩, rfl⟩
  | @one c A h1 h2 h3 hl ih =>
    intro k p r hk
    obtain ⟨q, hq, e⟩ := ih (k + 1) (some k) r (by omega)
    refine ⟨q, .inr ⟨by simp, ?_⟩, ?_⟩
    · rcases hq with ⟨rfl, rfl⟩ | ⟨_, rfl⟩
      · simp
      · simp; omega
    · rw [seg, List.cons_append, wh_cons_ok (by unfold alone; omega), e]
      rfl
  | @two c d A h1 h2 h3 h4 h5 h6 h7 hl ih =>
    intro k p r hk
    obtain ⟨q, hq, e⟩ := ih (k + 1 + 1) (some (k + 1)) r (by omega)
    refine ⟨q, .inr ⟨by simp, ?_⟩, ?_⟩
    · rcases hq with ⟨rfl, rfl⟩ | ⟨_, rfl⟩
      · simp; omega
      · simp; omega
    · rw [seg, seg, List.cons_append, List.cons_append, wh_cons_ok (by unfold alone; simp; omega), wh_cons_ok (by unfold alone; simp; omega), e]
      rfl
theorem wh_news (a : At) : ∀ (n : Nat) (p : Option Int) (r : List (C × Int)), wh p (List.replicate n (bC a, -1) ++ r) = List.replicate n (bC a) ++ wh (if n = 0 then p else some (-1)) r
  | 0, p, r => by simp
  | n + 1, p, r => by
    rw [List.replicate_succ, List.cons_append, wh_cons_ok (by unfold alone; simp [bC]), wh_news a n]
    rw [List.replicate_succ, List.cons_append]
    congr 2
    split <;> rfl
theorem wh_cut {l : List C} (h : Ok l) (m : Nat) (k : Int) (p : Option Int) (r : List (C × Int)) (hk : 0 ≤ k) (hr : r.head?.map (·.2) ≠ some (k + (l.take m).length)) :
    ∃ q, (q = p ∨ ∃ j, q = some j ∧ j < k + (l.take m).length) ∧ wh p (seg k (l.take m) ++ r) = fixL (l.take m) ++ wh q r := by
  rcases h.cut m with ⟨o, _⟩ | ⟨B, c, d, D, e1, e2, o1, o2, lr⟩
  · obtain ⟨q, hq, e⟩ := wh_ok o k p r hk
    refine ⟨q, ?_, by rw [e, o.last]⟩
    rcases hq with ⟨_, rfl⟩ | ⟨_, rfl⟩
    · exact .inl rfl
    · exact .inr ⟨_, rfl, by omega⟩
  · rw [e1] at hr ⊢
    have es : seg k (B ++ [c]) = seg k B ++ [(c, k + B.length)] := by
      have : ∀ (B : List C) (k : Int), seg k (B ++ [c]) = seg k B ++ [(c, k + B.length)] := by
        intro B
        induction B with
        | nil => intro k; simp [seg]
        | cons b B ih => intro k; rw [List.cons_append, seg, ih, seg, List.cons_append]; congr 3; simp; omega
      exact this B k
    rw [es, List.append_assoc]
    obtain ⟨q, hq, e⟩ := wh_ok o1 k p ([(c, k + B.length)] ++ r) hk
    rw [e, fixL_snoc, if_pos lr.cw, List.cons_append, List.nil_append, wh_cons_alone]
    · exact ⟨some (-2), .inr ⟨_, rfl, by simp; omega⟩, by simp⟩
    · left
      refine ⟨lr.cw, .inl fun h => hr ?_⟩
      rw [h]
      simp
      omega
theorem fixR_take (A : List C) (k : Nat) : (fixR A).take k = fixR (A.take k) := by
  cases A with
  | nil => simp [fixR]
  | cons c A => cases k <;> simp [fixR]
theorem fixR_drop {A : List C} {k : Nat} (hk : 0 < k) : (fixR A).drop k = A.drop k := by
  cases A with
  | nil => simp [fixR]
  | cons c A =>
    obtain ⟨j, rfl⟩ : ∃ j, k = j + 1 := ⟨k - 1, by omega⟩
    simp [fixR]
theorem fixL_take {A : List C} {k : Nat} (hk : k < A.length) : (fixL A).take k = A.take k := by
  have hne : A ≠ [] := by rintro rfl; simp at hk
  have e := (List.dropLast_concat_getLast hne)
  rw [← e, fixL_snoc, List.take_append_of_le_length (by rw [List.length_dropLast]; omega), List.take_append_of_le_length (by rw [List.length_dropLast]; omega)]
theorem fixL_cons {c : C} {l : List C} (h : c.w ≠ 1) : fixL (c :: l) = c :: fixL l := by
  cases l with
  | nil => simp [fixL, h]
  | cons d l => rfl
theorem wh_suf {l : List C} (h : Ok l) (t m : Nat) (p : Option Int) (r : List (C × Int)) (hp : t = 0 ∨ p ≠ some ((t : Int) - 1)) (hr : r.head?.map (·.2) ≠ some ((t : Int) + ((l.drop t).take m).length)) :
    ∃ q, wh p (seg t ((l.drop t).take m) ++ r) = fixL (fixR ((l.drop t).take m)) ++ wh q r := by
  rcases h.cut t with ⟨_, o⟩ | ⟨A, c, d, B, e1, e2, o1, o2, lr⟩
  · obtain ⟨q, _, e⟩ := wh_cut o m t p r (by omega) hr
    refine ⟨q, ?_⟩
    rw [e]
    congr 2
    have h1 : fixR (l.drop t) = l.drop t := o.first
    rw [← fixR_take, h1]
  · rw [e2] at hr ⊢
    cases m with
    | zero => exact ⟨p, by simp [seg, fixR, fixL]⟩
    | succ m =>
      rw [List.take_succ_cons] at hr ⊢
      have hp2 : p ≠ some ((t : Int) - 1) := by
        rcases hp with h0 | h0
        · subst h0; simp at e1
        · exact h0
      rw [seg, List.cons_append, wh_cons_alone (.inr ⟨lr.dw, .inl hp2⟩)]
      obtain ⟨q, _, e⟩ := wh_cut o2 m ((t : Int) + 1) (some (-2)) r (by omega) (by
        intro hh
        apply hr
        rw [hh]
        simp
        omega)
      refine ⟨q, ?_⟩
      rw [e, fixR, if_pos lr.dw, fixL_cons (by show (0 : Int) ≠ 1; decide), List.cons_append]
/-! ## partC on rows -/
theorem part_take {l : List C} (h : Ok l) {k : Nat} (hk : k ≤ l.length) : (partC l k).take k = fixL (l.take k) ∧ (partC l k).drop k = fixR (l.drop k) ∧ Ok (partC l k) := by
  rw [part_ok h k]
  have e : (fixL (l.take k)).length = k := by rw [fixL_length, List.length_take]; omega
  refine ⟨?_, ?_, (h.fix k).1.app (h.fix k).2⟩
  · rw [List.take_append_of_le_length (by omega), List.take_of_length_le (by omega)]
  · rw [List.drop_append_of_le_length (by omega), List.drop_eq_nil_of_le (by omega), List.nil_append]
/-- Parted at two places. -/
theorem part_two {l : List C} (h : Ok l) {f t : Nat} (hft : f < t) (ht : t ≤ l.length) : (partC (partC l f) t).take f = fixL (l.take f) ∧ (partC (partC l f) t).drop t = fixR (l.drop t) ∧ Ok (partC (partC l f) t) := by
  obtain ⟨a1, a2, a3⟩ := part_take h (k := f) (by omega)
  have hl : (partC l f).length = l.length := partC_length l f
  obtain ⟨b1, b2, b3⟩ := part_take a3 (k := t) (by omega)
  refine ⟨?_, ?_, b3⟩
  · have e : (partC (partC l f) t).take f = ((partC (partC l f) t).take t).take f := by rw [List.take_take, Nat.min_eq_left (by omega)]
    rw [e, b1, fixL_take (by rw [List.length_take]; omega), List.take_take, Nat.min_eq_left (by omega), a1]
  · rw [b2]
    have e : (partC l f).drop t = ((partC l f).drop f).drop (t - f) := by rw [List.drop_drop]; congr 1; omega
    rw [e, a2, fixR_drop (by omega), List.drop_drop]
    congr 2
    omega
/-! ## Erase -/
theorem fst_app {α : Type} (f : Nat → α) (n : Nat) (L : List α) (h : L.length = n) (hh : ∀ i, i < n → L[i]? = some (f i)) : fst_ f n = L := by
  have := fst_is (f := f) (L := L) (fun i hi => hh i (by omega))
  rwa [h] at this
def ints (k : Int) (n : Nat) : List Int := (List.range n).map fun i : Nat => k + i
theorem ints_len (k : Int) (n : Nat) : (ints k n).length = n := by unfold ints; rw [List.length_map, List.length_range]
theorem ints_get' (k : Int) {n i : Nat} (h : i < n) : (ints k n)[i]? = some (k + i) := by unfold ints; rw [List.getElem?_map, List.getElem?_range h]; rfl
theorem zip_ints (l : List C) (k : Int) : l.zip (ints k l.length) = seg k l := zip_seg l _ k (ints_len _ _) fun i hi => ints_get' k hi
theorem zip_rep (n : Nat) (c : C) : (List.replicate n c).zip (List.replicate n (-1 : Int)) = List.replicate n (c, -1) := by simp
theorem wE_is {f t n : Nat} (h1 : f ≤ t) (h2 : t ≤ n) : fst_ (wE f t) n = ints 0 f ++ List.replicate (t - f) (-1) ++ ints t (n - t) := by
  apply fst_app
  · simp only [List.length_append, ints_len, List.length_replicate]; omega
  · intro i hi
    unfold wE
    by_cases k1 : i < f
    · rw [if_neg (by omega), List.append_assoc, List.getElem?_append_left (by rw [ints_len]; omega), ints_get' 0 k1]; simp
    · by_cases k2 : i < t
      · rw [if_pos (by omega), List.getElem?_append_left (by simp only [List.length_append, ints_len, List.length_replicate]; omega), List.getElem?_append_right (by rw [ints_len]; omega), List.getElem?_replicate, if_pos (by rw [ints_len]; omega)]
      · rw [if_neg (by omega), List.getElem?_append_right (by simp only [List.length_append, ints_len, List.length_replicate]; omega)]
        simp only [List.length_append, ints_len, List.length_replicate]
        rw [ints_get' _ (by omega)]
        congr 1
        (try omega)
theorem eraseL {l : List C} (h : Ok l) (a : At) {f t : Nat} (h1 : f ≤ t) (h2 : t ≤ l.length) (h3 : f < t) : wh none ((l.take f ++ List.replicate (t - f) (bC a) ++ l.drop t).zip (fst_ (wE f t) l.length)) = fixL (l.take f) ++ List.replicate (t - f) (bC a) ++ fixR (l.drop t) := by
  have e1 : (l.take f).length = f := by rw [List.length_take]; omega
  have e2 : (l.drop t).length = l.length - t := List.length_drop
  rw [wE_is h1 h2, List.zip_append (by simp only [List.length_append, e1, List.length_replicate, ints_len]), List.zip_append (by rw [e1, ints_len]), zip_rep]
  have z1 : (l.take f).zip (ints 0 f) = seg 0 (l.take f) := by have := zip_ints (l.take f) 0; rwa [e1] at this
  have z2 : (l.drop t).zip (ints t (l.length - t)) = seg t (l.drop t) := by have := zip_ints (l.drop t) t; rwa [e2] at this
  rw [z1, z2, List.append_assoc]
  obtain ⟨q, hq, e⟩ := wh_cut h f 0 none (List.replicate (t - f) (bC a, -1) ++ seg t (l.drop t)) (Int.le_refl _) (by
    obtain ⟨m, hm⟩ : ∃ m, t - f = m + 1 := ⟨t - f - 1, by omega⟩
    rw [hm, List.replicate_succ]
    simp)
  rw [e, wh_news, if_neg (by omega)]
  have hd : (l.drop t).take (l.length - t) = l.drop t := List.take_of_length_le (by omega)
  obtain ⟨q2, e3⟩ := wh_suf h t (l.length - t) (some (-1)) [] (.inr (by simp; omega)) (by simp)
  rw [hd, List.append_nil] at e3
  rw [e3, (h.fix t).2.last, wh, List.append_nil]
  simp
theorem wE_id (f n : Nat) : fst_ (wE f f) n = ints 0 n := by
  apply fst_app
  · exact ints_len 0 n
  · intro i hi
    unfold wE
    rw [if_neg (by omega), ints_get' 0 hi]
    simp
theorem wh_id {l : List C} (h : Ok l) : wh none (l.zip (ints 0 l.length)) = l := by
  rw [zip_ints]
  obtain ⟨q, _, e⟩ := wh_ok h 0 none [] (Int.le_refl _)
  rw [List.append_nil] at e
  rw [e, wh, List.append_nil]
theorem erase_eq {l : List C} (h : Ok l) (f t : Int) (a : At) : eraseG l f t a = eraseR l f t a ∧ Ok (eraseG l f t a) := by
  unfold eraseG eraseR
  obtain ⟨f0, hf⟩ : ∃ f0, (min (max f 0) (l.length : Int)).toNat = f0 := ⟨_, rfl⟩
  obtain ⟨t1, ht⟩ : ∃ t1, (min (max t 0) (l.length : Int)).toNat = t1 := ⟨_, rfl⟩
  rw [hf, ht]
  simp only
  have hf2 : f0 ≤ l.length := by omega
  have ht2 : t1 ≤ l.length := by omega
  by_cases hft : t1 ≤ f0
  · rw [if_pos hft, show max f0 t1 = f0 from by omega, Nat.sub_self, List.replicate_zero, List.append_nil, List.take_append_drop, wE_id, wh_id h]
    exact ⟨rfl, h⟩
  · rw [if_neg hft, show max f0 t1 = t1 from by omega, eraseL h (grC a) (by omega) ht2 (by omega)]
    obtain ⟨p1, p2, p3⟩ := part_two h (f := f0) (t := t1) (by omega) ht2
    rw [p1, p2]
    exact ⟨rfl, ((h.fix f0).1.app (Ok.blanks _ _)).app (h.fix t1).2⟩
/-! ## Insert, Delete -/
theorem fixL_fixR {l : List C} (h : Ok l) (t : Nat) : fixL (fixR (l.drop t)) = fixR (l.drop t) := (h.fix t).2.last
theorem wR_is (n m : Nat) : fst_ (wR n) m = ints 0 (min n m) ++ List.replicate (m - n) (-1) := by
  apply fst_app
  · simp only [List.length_append, ints_len, List.length_replicate]; omega
  · intro i hi
    unfold wR
    by_cases k1 : i < n
    · rw [if_pos k1, List.getElem?_append_left (by rw [ints_len]; omega), ints_get' 0 (by omega)]; simp
    · rw [if_neg k1, List.getElem?_append_right (by rw [ints_len]; omega), List.getElem?_replicate, if_pos (by rw [ints_len]; omega)]
theorem resize_eq {l : List C} (h : Ok l) (m : Nat) : resG l m = resR l m ∧ Ok (resG l m) := by
  unfold resG resR
  have e1 : (l.take m).length = min l.length m := by rw [List.length_take, Nat.min_comm]
  have z1 : (l.take m).zip (ints 0 (min l.length m)) = seg 0 (l.take m) := by have := zip_ints (l.take m) 0; rwa [e1] at this
  rw [wR_is, List.zip_append (by rw [e1, ints_len]), zip_rep, z1]
  by_cases hm : m ≤ l.length
  · rw [if_pos hm, show m - l.length = 0 from by omega, List.replicate_zero, List.append_nil]
    obtain ⟨q, _, e⟩ := wh_cut h m 0 none [] (Int.le_refl _) (by simp)
    rw [List.append_nil] at e
    have e2 := md_fixL h m .nil 0
    rw [List.nil_append, List.nil_append] at e2
    rw [e, wh, List.append_nil, e2]
    exact ⟨rfl, h.take m⟩
  · rw [if_neg hm, List.take_of_length_le (by omega)]
    obtain ⟨q, _, e⟩ := wh_ok h 0 none (List.replicate (m - l.length) (bC At.z, -1)) (Int.le_refl _)
    have ho : Ok (l ++ List.replicate (m - l.length) (bC At.z)) := h.app (Ok.blanks _ _)
    rw [e, ← List.append_nil (List.replicate (m - l.length) (bC At.z, (-1 : Int))), wh_news, wh, List.append_nil, md_all ho]
    exact ⟨rfl, ho⟩
/-! ## Put -/
theorem set_mid (A : List C) (y : List C) (c : C) (B : List C) (x : C) : (A ++ c :: B).set A.length x = A ++ x :: B := by simp
theorem split_at {l : List C} {k : Nat} {A B : List C} {m : Nat} (h1 : l.take k = A) (h2 : l.drop (k + m) = B) (hk : k + m ≤ l.length) : ∃ M, M.length = m ∧ l = A ++ (M ++ B) := by
  refine ⟨(l.drop k).take m, by rw [List.length_take, List.length_drop]; omega, ?_⟩
  rw [← h1, ← h2, ← List.drop_drop, List.take_append_drop, List.take_append_drop]
theorem put_eq {l : List C} (h : Ok l) (k x : Int) (wide : Bool) (a : At) : putG l k x wide a = putR l k x wide a ∧ Ok (putG l k x wide a).1 := by
  unfold putG putR
  by_cases hm : ¬ mayC x
  · rw [if_pos (.inl hm), if_pos (.inl hm)]; exact ⟨rfl, h⟩
  replace hm : mayC x := Decidable.not_not.1 hm
  by_cases hk : k < 0
  · rw [if_pos (.inr (.inl hk)), if_pos (.inr (.inl hk))]; exact ⟨rfl, h⟩
  obtain ⟨c, rfl⟩ : ∃ c : Nat, k = (c : Int) := ⟨k.toNat, by omega⟩
  cases wide with
  | false =>
    simp only [Bool.false_eq_true, if_false]
    by_cases hc : (l.length : Int) - 1 < (c : Int)
    · rw [if_pos (.inr (.inr hc)), if_pos (.inr (.inr (.inl (by omega))))]; exact ⟨rfl, h⟩
    · rw [if_neg (by rintro (h1 | h1 | h1); exact h1 hm; omega; exact hc h1), if_neg (by rintro (h1 | h1 | h1 | h1); exact h1 hm; omega; omega; omega)]
      rw [Int.toNat_natCast, show ((c : Int) + 1).toNat = c + 1 from by omega, eraseL h At.z (f := c) (t := c + 1) (by omega) (by omega) (by omega), show c + 1 - c = 1 from by omega]
      obtain ⟨p1, p2, p3⟩ := part_two h (f := c) (t := c + 1) (by omega) (by omega)
      rw [show ((c : Int) + 1) = ((c + 1 : Nat) : Int) from by push_cast; rfl]
      obtain ⟨M, hM, e⟩ := split_at p1 p2 (by rw [partC_length, partC_length]; omega)
      obtain ⟨y, rfl⟩ : ∃ y, M = [y] := List.length_eq_one_iff.1 hM
      have e1 : (fixL (l.take c)).length = c := by rw [fixL_length, List.length_take]; omega
      have s1 : ∀ (y z : C) (B : List C), (fixL (l.take c) ++ ([y] ++ B)).set c z = fixL (l.take c) ++ z :: B := fun y z B => by
        have := set_mid (fixL (l.take c)) [] y B z
        rwa [e1] at this
      rw [e, s1, List.append_assoc, show List.replicate 1 (bC At.z) = [bC At.z] from rfl, s1]
      refine ⟨rfl, (h.fix c).1.app (.one rfl hm (Nat.zero_le _) (h.fix (c + 1)).2)⟩
  | true =>
    simp only [if_true]
    by_cases hc : (l.length : Int) - 2 < (c : Int)
    · rw [if_pos (.inr (.inr hc)), if_pos (.inr (.inr (.inr (by omega))))]; exact ⟨rfl, h⟩
    · rw [if_neg (by rintro (h1 | h1 | h1); exact h1 hm; omega; exact hc h1), if_neg (by rintro (h1 | h1 | h1 | h1); exact h1 hm; omega; omega; omega)]
      rw [Int.toNat_natCast, show ((c : Int) + 2).toNat = c + 2 from by omega, eraseL h At.z (f := c) (t := c + 2) (by omega) (by omega) (by omega), show c + 2 - c = 2 from by omega]
      obtain ⟨p1, p2, p3⟩ := part_two h (f := c) (t := c + 2) (by omega) (by omega)
      rw [show ((c : Int) + 2) = ((c + 2 : Nat) : Int) from by push_cast; rfl]
      obtain ⟨M, hM, e⟩ := split_at p1 p2 (by rw [partC_length, partC_length]; omega)
      obtain ⟨y, y', rfl⟩ : ∃ y y', M = [y, y'] := by
        match M, hM with
        | [y, y'], _ => exact ⟨y, y', rfl⟩
      have e1 : (fixL (l.take c)).length = c := by rw [fixL_length, List.length_take]; omega
      have s1 : ∀ (y y' z z' : C) (B : List C), ((fixL (l.take c) ++ ([y, y'] ++ B)).set c z).set (c + 1) z' = fixL (l.take c) ++ z :: z' :: B := fun y y' z z' B => by
        have h1 := set_mid (fixL (l.take c)) [] y (y' :: B) z
        rw [e1] at h1
        rw [show fixL (l.take c) ++ ([y, y'] ++ B) = fixL (l.take c) ++ y :: y' :: B from rfl, h1]
        have h2 := set_mid (fixL (l.take c) ++ [z]) [] y' B z'
        rw [List.length_append, e1] at h2
        simpa using h2
      rw [e, s1, List.append_assoc, show List.replicate 2 (bC At.z) = [bC At.z, bC At.z] from rfl, s1]
      refine ⟨rfl, (h.fix c).1.app (.two rfl rfl hm (Nat.zero_le _) rfl rfl rfl (h.fix (c + 2)).2)⟩
/-! ## Join -/
theorem _root_.Go.Cells.Ok.mark {l : List C} (h : Ok l) : ∀ (j : Nat) (d : C) (x : Int), l[j]? = some d → d.w ≠ 2 → d.comb.length < 4 → Ok (l.set j { d with comb := d.comb ++ [x] }) := by
  induction h with
  | nil => intro j d x hd; simp at hd
  | @one c l h1 h2 h3 hl ih =>
    intro j d x hd hw h4
    cases j with
    | zero =>
      have e : c = d := by simpa using hd
      subst e
      exact .one h1 h2 (by simp; omega) hl
    | succ j => exact .one h1 h2 h3 (ih j d x (by simpa using hd) hw h4)
  | @two c e l h1 h2 h3 h4' h5 h6 h7 hl ih =>
    intro j d x hd hw h4
    match j with
    | 0 =>
      have e' : c = d := by simpa using hd
      subst e'
      exact .two h1 h2 h3 (by simp; omega) h5 h6 h7 hl
    | 1 =>
      have e' : e = d := by simpa using hd
      subst e'
      exact absurd h2 hw
    | j + 2 => exact .two h1 h2 h3 h4' h5 h6 h7 (ih j d x (by simpa using hd) hw h4)
theorem _root_.Go.Cells.Ok.right {l : List C} (h : Ok l) : ∀ (j : Nat) (c : C), l[j]? = some c → c.w = 2 → ∃ i d, j = i + 1 ∧ l[i]? = some d ∧ d.w = 1 := by
  induction h with
  | nil => intro j d hd; simp at hd
  | @one c l h1 h2 h3 hl ih =>
    intro j d hd hw
    cases j with
    | zero =>
      have e : c = d := by simpa using hd
      subst e
      omega
    | succ j =>
      obtain ⟨i, y, rfl, hy, hy2⟩ := ih j d (by simpa using hd) hw
      exact ⟨i + 1, y, rfl, by simpa using hy, hy2⟩
  | @two c e l h1 h2 h3 h4' h5 h6 h7 hl ih =>
    intro j d hd hw
    match j with
    | 0 =>
      have e' : c = d := by simpa using hd
      subst e'
      omega
    | 1 => exact ⟨0, c, rfl, rfl, h1⟩
    | j + 2 =>
      obtain ⟨i, y, rfl, hy, hy2⟩ := ih j d (by simpa using hd) hw
      exact ⟨i + 2, y, rfl, by simpa using hy, hy2⟩
theorem _root_.Go.Cells.Ok.head0 {l : List C} (h : Ok l) : ∀ c, l[0]? = some c → c.w ≠ 2 := fun c hc hw => by
  obtain ⟨i, d, e, _⟩ := h.right 0 c hc hw
  omega
theorem _root_.Go.Cells.Ok.m4 {l : List C} (h : Ok l) : ∀ c ∈ l, c.comb.length ≤ 4 := by
  induction h with
  | nil => intro c hc; simp at hc
  | one h1 h2 h3 hl ih => intro c hc; rcases List.mem_cons.1 hc with rfl | hc; exact h3; exact ih c hc
  | two h1 h2 h3 h4 h5 h6 h7 hl ih =>
    intro c hc
    rcases List.mem_cons.1 hc with rfl | hc
    · exact h4
    · rcases List.mem_cons.1 hc with rfl | hc
      · rw [h6]; exact Nat.zero_le _
      · exact ih c hc
theorem eraseR_len (l : List C) (f t : Int) (a : At) (h : Ok l) : (eraseG l f t a).length = l.length := by
  rw [(erase_eq h f t a).1]
  unfold eraseR
  simp only
  rw [wh_length, List.length_zip, fst_len]
  simp only [List.length_append, List.length_take, List.length_replicate, List.length_drop]
  omega
theorem resR_len (l : List C) (m : Nat) (h : Ok l) : (resG l m).length = m := by
  rw [(resize_eq h m).1]
  unfold resR
  rw [wh_length, List.length_zip, fst_len]
  simp only [List.length_append, List.length_take, List.length_replicate]
  omega
theorem putG_len (l : List C) (k x : Int) (wide : Bool) (a : At) : (putG l k x wide a).1.length = l.length := by
  unfold putG
  cases wide with
  | false =>
    simp only [Bool.false_eq_true, if_false]
    split
    · rfl
    · simp [partC_length]
  | true =>
    simp only [if_true]
    split
    · rfl
    · simp [partC_length]
end Go.Proofs.Ytdcagaaanbgcoaa
