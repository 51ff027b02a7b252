/- Law 6: the same cells. -/
import Derived.Test.YtdcagaaanbgcoaaV15
namespace Go.Proofs.Ytdcagaaanbgcoaa
open Go.RowKit Go.Mem Go.Cells
variable {W w : World} {H : List HProp}
def RC (W : World) (H : List HProp) (a : Option Addr) (n c : Nat) (l : List C) : Prop := ∃ ps : List PC, ps.map (·.c) = l ∧ SR 6 W H a n c (rws ps) ∧ ∀ p ∈ ps, ∀ w', sat W H w' → Reads w' (pcS p) (runes p.c.comb)
attribute [local irreducible] rowTy oneTy World.setCell World.setCells World.alloc World.drew World.drewN Calls sat cel own blk old wpQuiet wpList cmb cmb1 rwP cls rws wi wh fst_ World.rangeAt
theorem samecell16_no {c d : C} {a1 a2 : Option Addr} {n1 n2 p1 p2 : Nat} (hne : ¬ (c.r = d.r ∧ c.w = d.w ∧ c.a = d.a ∧ n1 = n2)) (hs : sat W H w) : Calls Try.prog 78 #[cA c (.slice a1 n1 p1), cA d (.slice a2 n2 p2)] w fun e w' => e = .returned (.bool false) ∧ sat W H w' := by
  obtain ⟨r, cb, wd, ⟨fg, bg, fl⟩⟩ := c
  obtain ⟨r', cb', wd', ⟨fg', bg', fl'⟩⟩ := d
  simp only at hne
  by_cases h1 : r = r'
  · subst h1
    by_cases h2 : wd = wd'
    · subst h2
      by_cases h3 : fg = fg' ∧ bg = bg' ∧ fl = fl'
      · obtain ⟨rfl, rfl, rfl⟩ := h3
        have h4 : ¬ n1 = n2 := fun h => hne ⟨rfl, rfl, rfl, h⟩
        have h5 : ¬ (n1 : Int) = (n2 : Int) := by omega
        clear hne
        go_enter Try.func78, Try.ntmps78
        go_wp2_with (first | ((with_reducible refine isl ?_); first | ((with_reducible apply stsw hs.b0); exact rfl; exact rfl; exact rfl; exact rfl; exact row41; exact rfl; exact rfl; exact rfl; clear hs; intro w hs) | ((with_reducible apply stsw hs.b1); exact rfl; exact rfl; exact rfl; exact rfl; exact row41; exact rfl; exact rfl; exact rfl; clear hs; intro w hs) | ((with_reducible apply lds 3 hs.b0); exact rfl; exact rfl; exact rfl; exact row33; exact rfl; exact rfl) | ((with_reducible apply lds 3 hs.b1); exact rfl; exact rfl; exact rfl; exact row33; exact rfl; exact rfl) | ((with_reducible apply ld hs.b0); exact rfl; exact rfl; exact rfl; exact rfl; kernel_rfl) | ((with_reducible apply ld hs.b1); exact rfl; exact rfl; exact rfl; exact rfl; kernel_rfl) | ((with_reducible apply ld hs.b2); exact rfl; exact rfl; exact rfl; exact rfl; kernel_rfl) | ((with_reducible apply st hs.b0); exact rfl; exact rfl; exact rfl; exact rfl; exact rfl; exact rfl; kernel_rfl; exact rfl; clear hs; intro w hs) | ((with_reducible apply st hs.b1); exact rfl; exact rfl; exact rfl; exact rfl; exact rfl; exact rfl; kernel_rfl; exact rfl; clear hs; intro w hs) | ((with_reducible apply st hs.b2); exact rfl; exact rfl; exact rfl; exact rfl; exact rfl; exact rfl; kernel_rfl; exact rfl; clear hs; intro w hs) | ((with_reducible apply stc hs.b0); exact rfl; exact rfl; exact rfl; exact rfl; exact rfl; kernel_rfl; exact rfl; clear hs; intro w hs) | ((with_reducible apply stc hs.b1); exact rfl; exact rfl; exact rfl; exact rfl; exact rfl; kernel_rfl; exact rfl; clear hs; intro w hs) | ((with_reducible apply stc hs.b2); exact rfl; exact rfl; exact rfl; exact rfl; exact rfl; kernel_rfl; exact rfl; clear hs; intro w hs) | ((with_reducible refine wrap hs ?_); clear hs; (first | (have _t := z4; clear _t; generalize w.heap.size = z5) | generalize w.heap.size = z4); intro w hs) | ((with_reducible refine wrap hs ?_); clear hs; intro w hs) | ((with_reducible refine wrapn hs ?_); clear hs; intro w hs) | ((with_reducible refine wrapd hs ?_); clear hs; intro w hs)))
        go_ret
        exact ⟨rfl, hs.dropN 2⟩
      · by_cases h4 : fg = fg'
        · subst h4
          by_cases h5 : bg = bg'
          · subst h5
            have h6 : ¬ fl = fl' := fun h => h3 ⟨rfl, rfl, h⟩
            have q1 : (fl == fl') = false := beq_eq_false_iff_ne.2 h6
            have q2 : decide (fl = fl') = false := decide_eq_false h6
            clear hne h3
            go_enter Try.func78, Try.ntmps78
            go_wp2_with (first | ((with_reducible refine isl ?_); first | ((with_reducible apply stsw hs.b0); exact rfl; exact rfl; exact rfl; exact rfl; exact row41; exact rfl; exact rfl; exact rfl; clear hs; intro w hs) | ((with_reducible apply stsw hs.b1); exact rfl; exact rfl; exact rfl; exact rfl; exact row41; exact rfl; exact rfl; exact rfl; clear hs; intro w hs) | ((with_reducible apply lds 3 hs.b0); exact rfl; exact rfl; exact rfl; exact row33; exact rfl; exact rfl) | ((with_reducible apply lds 3 hs.b1); exact rfl; exact rfl; exact rfl; exact row33; exact rfl; exact rfl) | ((with_reducible apply ld hs.b0); exact rfl; exact rfl; exact rfl; exact rfl; kernel_rfl) | ((with_reducible apply ld hs.b1); exact rfl; exact rfl; exact rfl; exact rfl; kernel_rfl) | ((with_reducible apply ld hs.b2); exact rfl; exact rfl; exact rfl; exact rfl; kernel_rfl) | ((with_reducible apply st hs.b0); exact rfl; exact rfl; exact rfl; exact rfl; exact rfl; exact rfl; kernel_rfl; exact rfl; clear hs; intro w hs) | ((with_reducible apply st hs.b1); exact rfl; exact rfl; exact rfl; exact rfl; exact rfl; exact rfl; kernel_rfl; exact rfl; clear hs; intro w hs) | ((with_reducible apply st hs.b2); exact rfl; exact rfl; exact rfl; exact rfl; exact rfl; exact rfl; kernel_rfl; exact rfl; clear hs; intro w hs) | ((with_reducible apply stc hs.b0); exact rfl; exact rfl; exact rfl; exact rfl; exact rfl; kernel_rfl; exact rfl; clear hs; intro w hs) | ((with_reducible apply stc hs.b1); exact rfl; exact rfl; exact rfl; exact rfl; exact rfl; kernel_rfl; exact rfl; clear hs; intro w hs) | ((with_reducible apply stc hs.b2); exact rfl; exact rfl; exact rfl; exact rfl; exact rfl; kernel_rfl; exact rfl; clear hs; intro w hs) | ((with_reducible refine wrap hs ?_); clear hs; (first | (have _t := z4; clear _t; generalize w.heap.size = z5) | generalize w.heap.size = z4); intro w hs) | ((with_reducible refine wrap hs ?_); clear hs; intro w hs) | ((with_reducible refine wrapn hs ?_); clear hs; intro w hs) | ((with_reducible refine wrapd hs ?_); clear hs; intro w hs)))
            go_ret
            exact ⟨rfl, hs.dropN 2⟩
          · have q1 : (bg == bg') = false := beq_eq_false_iff_ne.2 h5
            have q2 : decide (bg = bg') = false := decide_eq_false h5
            clear hne h3
            go_enter Try.func78, Try.ntmps78
            go_wp2_with (first | ((with_reducible refine isl ?_); first | ((with_reducible apply stsw hs.b0); exact rfl; exact rfl; exact rfl; exact rfl; exact row41; exact rfl; exact rfl; exact rfl; clear hs; intro w hs) | ((with_reducible apply stsw hs.b1); exact rfl; exact rfl; exact rfl; exact rfl; exact row41; exact rfl; exact rfl; exact rfl; clear hs; intro w hs) | ((with_reducible apply lds 3 hs.b0); exact rfl; exact rfl; exact rfl; exact row33; exact rfl; exact rfl) | ((with_reducible apply lds 3 hs.b1); exact rfl; exact rfl; exact rfl; exact row33; exact rfl; exact rfl) | ((with_reducible apply ld hs.b0); exact rfl; exact rfl; exact rfl; exact rfl; kernel_rfl) | ((with_reducible apply ld hs.b1); exact rfl; exact rfl; exact rfl; exact rfl; kernel_rfl) | ((with_reducible apply ld hs.b2); exact rfl; exact rfl; exact rfl; exact rfl; kernel_rfl) | ((with_reducible apply st hs.b0); exact rfl; exact rfl; exact rfl; exact rfl; exact rfl; exact rfl; kernel_rfl; exact rfl; clear hs; intro w hs) | ((with_reducible apply st hs.b1); exact rfl; exact rfl; exact rfl; exact rfl; exact rfl; exact rfl; kernel_rfl; exact rfl; clear hs; intro w hs) | ((with_reducible apply st hs.b2); exact rfl; exact rfl; exact rfl; exact rfl; exact rfl; exact rfl; kernel_rfl; exact rfl; clear hs; intro w hs) | ((with_reducible apply stc hs.b0); exact rfl; exact rfl; exact rfl; exact rfl; exact rfl; kernel_rfl; exact rfl; clear hs; intro w hs) | ((with_reducible apply stc hs.b1); exact rfl; exact rfl; exact rfl; exact rfl; exact rfl; kernel_rfl; exact rfl; clear hs; intro w hs) | ((with_reducible apply stc hs.b2); exact rfl; exact rfl; exact rfl; exact rfl; exact rfl; kernel_rfl; exact rfl; clear hs; intro w hs) | ((with_reducible refine wrap hs ?_); clear hs; (first | (have _t := z4; clear _t; generalize w.heap.size = z5) | generalize w.heap.size = z4); intro w hs) | ((with_reducible refine wrap hs ?_); clear hs; intro w hs) | ((with_reducible refine wrapn hs ?_); clear hs; intro w hs) | ((with_reducible refine wrapd hs ?_); clear hs; intro w hs)))
            go_ret
            exact ⟨rfl, hs.dropN 2⟩
        · have q1 : (fg == fg') = false := beq_eq_false_iff_ne.2 h4
          have q2 : decide (fg = fg') = false := decide_eq_false h4
          clear hne h3
          go_enter Try.func78, Try.ntmps78
          go_wp2_with (first | ((with_reducible refine isl ?_); first | ((with_reducible apply stsw hs.b0); exact rfl; exact rfl; exact rfl; exact rfl; exact row41; exact rfl; exact rfl; exact rfl; clear hs; intro w hs) | ((with_reducible apply stsw hs.b1); exact rfl; exact rfl; exact rfl; exact rfl; exact row41; exact rfl; exact rfl; exact rfl; clear hs; intro w hs) | ((with_reducible apply lds 3 hs.b0); exact rfl; exact rfl; exact rfl; exact row33; exact rfl; exact rfl) | ((with_reducible apply lds 3 hs.b1); exact rfl; exact rfl; exact rfl; exact row33; exact rfl; exact rfl) | ((with_reducible apply ld hs.b0); exact rfl; exact rfl; exact rfl; exact rfl; kernel_rfl) | ((with_reducible apply ld hs.b1); exact rfl; exact rfl; exact rfl; exact rfl; kernel_rfl) | ((with_reducible apply ld hs.b2); exact rfl; exact rfl; exact rfl; exact rfl; kernel_rfl) | ((with_reducible apply st hs.b0); exact rfl; exact rfl; exact rfl; exact rfl; exact rfl; exact rfl; kernel_rfl; exact rfl; clear hs; intro w hs) | ((with_reducible apply st hs.b1); exact rfl; exact rfl; exact rfl; exact rfl; exact rfl; exact rfl; kernel_rfl; exact rfl; clear hs; intro w hs) | ((with_reducible apply st hs.b2); exact rfl; exact rfl; exact rfl; exact rfl; exact rfl; exact rfl; kernel_rfl; exact rfl; clear hs; intro w hs) | ((with_reducible apply stc hs.b0); exact rfl; exact rfl; exact rfl; exact rfl; exact rfl; kernel_rfl; exact rfl; clear hs; intro w hs) | ((with_reducible apply stc hs.b1); exact rfl; exact rfl; exact rfl; exact rfl; exact rfl; kernel_rfl; exact rfl; clear hs; intro w hs) | ((with_reducible apply stc hs.b2); exact rfl; exact rfl; exact rfl; exact rfl; exact rfl; kernel_rfl; exact rfl; clear hs; intro w hs) | ((with_reducible refine wrap hs ?_); clear hs; (first | (have _t := z4; clear _t; generalize w.heap.size = z5) | generalize w.heap.size = z4); intro w hs) | ((with_reducible refine wrap hs ?_); clear hs; intro w hs) | ((with_reducible refine wrapn hs ?_); clear hs; intro w hs) | ((with_reducible refine wrapd hs ?_); clear hs; intro w hs)))
          go_ret
          exact ⟨rfl, hs.dropN 2⟩
    · have q1 : (wd == wd') = false := beq_eq_false_iff_ne.2 h2
      have q2 : decide (wd = wd') = false := decide_eq_false h2
      have q3 : (wd != wd') = true := bne_iff_ne.2 h2
      clear hne
      go_enter Try.func78, Try.ntmps78
      go_wp2_with (first | ((with_reducible refine isl ?_); first | ((with_reducible apply stsw hs.b0); exact rfl; exact rfl; exact rfl; exact rfl; exact row41; exact rfl; exact rfl; exact rfl; clear hs; intro w hs) | ((with_reducible apply stsw hs.b1); exact rfl; exact rfl; exact rfl; exact rfl; exact row41; exact rfl; exact rfl; exact rfl; clear hs; intro w hs) | ((with_reducible apply lds 3 hs.b0); exact rfl; exact rfl; exact rfl; exact row33; exact rfl; exact rfl) | ((with_reducible apply lds 3 hs.b1); exact rfl; exact rfl; exact rfl; exact row33; exact rfl; exact rfl) | ((with_reducible apply ld hs.b0); exact rfl; exact rfl; exact rfl; exact rfl; kernel_rfl) | ((with_reducible apply ld hs.b1); exact rfl; exact rfl; exact rfl; exact rfl; kernel_rfl) | ((with_reducible apply ld hs.b2); exact rfl; exact rfl; exact rfl; exact rfl; kernel_rfl) | ((with_reducible apply st hs.b0); exact rfl; exact rfl; exact rfl; exact rfl; exact rfl; exact rfl; kernel_rfl; exact rfl; clear hs; intro w hs) | ((with_reducible apply st hs.b1); exact rfl; exact rfl; exact rfl; exact rfl; exact rfl; exact rfl; kernel_rfl; exact rfl; clear hs; intro w hs) | ((with_reducible apply st hs.b2); exact rfl; exact rfl; exact rfl; exact rfl; exact rfl; exact rfl; kernel_rfl; exact rfl; clear hs; intro w hs) | ((with_reducible apply stc hs.b0); exact rfl; exact rfl; exact rfl; exact rfl; exact rfl; kernel_rfl; exact rfl; clear hs; intro w hs) | ((with_reducible apply stc hs.b1); exact rfl; exact rfl; exact rfl; exact rfl; exact rfl; kernel_rfl; exact rfl; clear hs; intro w hs) | ((with_reducible apply stc hs.b2); exact rfl; exact rfl; exact rfl; exact rfl; exact rfl; kernel_rfl; exact rfl; clear hs; intro w hs) | ((with_reducible refine wrap hs ?_); clear hs; (first | (have _t := z4; clear _t; generalize w.heap.size = z5) | generalize w.heap.size = z4); intro w hs) | ((with_reducible refine wrap hs ?_); clear hs; intro w hs) | ((with_reducible refine wrapn hs ?_); clear hs; intro w hs) | ((with_reducible refine wrapd hs ?_); clear hs; intro w hs)))
      go_ret
      exact ⟨rfl, hs.dropN 2⟩
  · have q1 : (r == r') = false := beq_eq_false_iff_ne.2 h1
    have q2 : decide (r = r') = false := decide_eq_false h1
    have q3 : (r != r') = true := bne_iff_ne.2 h1
    clear hne
    go_enter Try.func78, Try.ntmps78
    go_wp2_with (first | ((with_reducible refine isl ?_); first | ((with_reducible apply stsw hs.b0); exact rfl; exact rfl; exact rfl; exact rfl; exact row41; exact rfl; exact rfl; exact rfl; clear hs; intro w hs) | ((with_reducible apply stsw hs.b1); exact rfl; exact rfl; exact rfl; exact rfl; exact row41; exact rfl; exact rfl; exact rfl; clear hs; intro w hs) | ((with_reducible apply lds 3 hs.b0); exact rfl; exact rfl; exact rfl; exact row33; exact rfl; exact rfl) | ((with_reducible apply lds 3 hs.b1); exact rfl; exact rfl; exact rfl; exact row33; exact rfl; exact rfl) | ((with_reducible apply ld hs.b0); exact rfl; exact rfl; exact rfl; exact rfl; kernel_rfl) | ((with_reducible apply ld hs.b1); exact rfl; exact rfl; exact rfl; exact rfl; kernel_rfl) | ((with_reducible apply ld hs.b2); exact rfl; exact rfl; exact rfl; exact rfl; kernel_rfl) | ((with_reducible apply st hs.b0); exact rfl; exact rfl; exact rfl; exact rfl; exact rfl; exact rfl; kernel_rfl; exact rfl; clear hs; intro w hs) | ((with_reducible apply st hs.b1); exact rfl; exact rfl; exact rfl; exact rfl; exact rfl; exact rfl; kernel_rfl; exact rfl; clear hs; intro w hs) | ((with_reducible apply st hs.b2); exact rfl; exact rfl; exact rfl; exact rfl; exact rfl; exact rfl; kernel_rfl; exact rfl; clear hs; intro w hs) | ((with_reducible apply stc hs.b0); exact rfl; exact rfl; exact rfl; exact rfl; exact rfl; kernel_rfl; exact rfl; clear hs; intro w hs) | ((with_reducible apply stc hs.b1); exact rfl; exact rfl; exact rfl; exact rfl; exact rfl; kernel_rfl; exact rfl; clear hs; intro w hs) | ((with_reducible apply stc hs.b2); exact rfl; exact rfl; exact rfl; exact rfl; exact rfl; kernel_rfl; exact rfl; clear hs; intro w hs) | ((with_reducible refine wrap hs ?_); clear hs; (first | (have _t := z4; clear _t; generalize w.heap.size = z5) | generalize w.heap.size = z4); intro w hs) | ((with_reducible refine wrap hs ?_); clear hs; intro w hs) | ((with_reducible refine wrapn hs ?_); clear hs; intro w hs) | ((with_reducible refine wrapd hs ?_); clear hs; intro w hs)))
    go_ret
    exact ⟨rfl, hs.dropN 2⟩
theorem samecell16_eq {c d : C} {a1 a2 : Option Addr} {n p1 p2 : Nat} (he : c.r = d.r ∧ c.w = d.w ∧ c.a = d.a) (h1 : c.comb.length = n) (h2 : d.comb.length = n) (h1000 : n ≤ 1000) (R1 : ∀ w', sat W H w' → Reads w' (.slice a1 n p1) (runes c.comb)) (R2 : ∀ w', sat W H w' → Reads w' (.slice a2 n p2) (runes d.comb)) (hs : sat W H w) : Calls Try.prog 78 #[cA c (.slice a1 n p1), cA d (.slice a2 n p2)] w fun e w' => e = .returned (.bool (decide (c = d))) ∧ sat W H w' := by
  obtain ⟨r, cb, wd, at_⟩ := c
  obtain ⟨r', cb', wd', at_'⟩ := d
  simp only at he h1 h2 R1 R2
  obtain ⟨rfl, rfl, rfl⟩ := he
  have HEQ : Hid (decide ((⟨r, cb, wd, at_⟩ : C) = ⟨r, cb', wd, at_⟩) = decide (cb = cb')) := Lib.hid (decide_eq_decide.2 (by constructor <;> intro h; exact (C.mk.inj h).2.1; rw [h]))
  have H1 := Lib.hid h1
  have H2 := Lib.hid h2
  have HR1 := Lib.hid R1
  have HR2 := Lib.hid R2
  clear h1 h2 R1 R2
  rw [HEQ.out]
  go_enter Try.func78, Try.ntmps78
  go_wp2_with (first | ((with_reducible refine isl ?_); first | ((with_reducible apply stsw hs.b0); exact rfl; exact rfl; exact rfl; exact rfl; exact row41; exact rfl; exact rfl; exact rfl; clear hs; intro w hs) | ((with_reducible apply stsw hs.b1); exact rfl; exact rfl; exact rfl; exact rfl; exact row41; exact rfl; exact rfl; exact rfl; clear hs; intro w hs) | ((with_reducible apply lds 3 hs.b0); exact rfl; exact rfl; exact rfl; exact row33; exact rfl; exact rfl) | ((with_reducible apply lds 3 hs.b1); exact rfl; exact rfl; exact rfl; exact row33; exact rfl; exact rfl) | ((with_reducible apply ld hs.b0); exact rfl; exact rfl; exact rfl; exact rfl; kernel_rfl) | ((with_reducible apply ld hs.b1); exact rfl; exact rfl; exact rfl; exact rfl; kernel_rfl) | ((with_reducible apply ld hs.b2); exact rfl; exact rfl; exact rfl; exact rfl; kernel_rfl) | ((with_reducible apply st hs.b0); exact rfl; exact rfl; exact rfl; exact rfl; exact rfl; exact rfl; kernel_rfl; exact rfl; clear hs; intro w hs) | ((with_reducible apply st hs.b1); exact rfl; exact rfl; exact rfl; exact rfl; exact rfl; exact rfl; kernel_rfl; exact rfl; clear hs; intro w hs) | ((with_reducible apply st hs.b2); exact rfl; exact rfl; exact rfl; exact rfl; exact rfl; exact rfl; kernel_rfl; exact rfl; clear hs; intro w hs) | ((with_reducible apply stc hs.b0); exact rfl; exact rfl; exact rfl; exact rfl; exact rfl; kernel_rfl; exact rfl; clear hs; intro w hs) | ((with_reducible apply stc hs.b1); exact rfl; exact rfl; exact rfl; exact rfl; exact rfl; kernel_rfl; exact rfl; clear hs; intro w hs) | ((with_reducible apply stc hs.b2); exact rfl; exact rfl; exact rfl; exact rfl; exact rfl; kernel_rfl; exact rfl; clear hs; intro w hs) | ((with_reducible refine wrap hs ?_); clear hs; (first | (have _t := z4; clear _t; generalize w.heap.size = z5) | generalize w.heap.size = z4); intro w hs) | ((with_reducible refine wrap hs ?_); clear hs; intro w hs) | ((with_reducible refine wrapn hs ?_); clear hs; intro w hs) | ((with_reducible refine wrapd hs ?_); clear hs; intro w hs)))
  go_loopw [5] (fun i wx => ∃ i0 : Nat, i0 ≤ n ∧ i = .int .i64 (i0 : Int) ∧ Hid (∀ j, j < i0 → cb.getD j 0 = cb'.getD j 0) ∧ sat W (cel z5 110 (cV ⟨r, cb', wd, at_⟩ (.slice a2 n p2)) :: cel z4 110 (cV ⟨r, cb, wd, at_⟩ (.slice a1 n p1)) :: H) wx) (fun i _ => ((n : Int) - intOf i).toNat)
  case atStart => exact ⟨0, Nat.zero_le _, rfl, Lib.hid (fun j hj => by omega), by refine sb_from ?_ hs; repeat constructor⟩
  case round =>
    clear hs
    obtain ⟨i0, hi, rfl, HI, hs⟩ := hrel
    by_cases hin : i0 < n
    · obtain ⟨hz1, g1, o1, rfl, k1⟩ := reads_cells HR1.out (hs.dropN 2) (by rw [runes_len, H1.out]; omega)
      obtain ⟨hz2, g2, o2, rfl, k2⟩ := reads_cells HR2.out (hs.dropN 2) (by rw [runes_len, H2.out]; omega)
      have HK1 : Hid (∀ w', sat W H w' → w'.cell? ⟨g1, o1 + i0, none⟩ = some (.int .i32 (cb.getD i0 0))) := Lib.hid fun w' h => k1 w' h i0 _ (ints_get (by rw [H1.out]; exact hin))
      have HK2 : Hid (∀ w', sat W H w' → w'.cell? ⟨g2, o2 + i0, none⟩ = some (.int .i32 (cb'.getD i0 0))) := Lib.hid fun w' h => k2 w' h i0 _ (ints_get (by rw [H2.out]; exact hin))
      clear k1 k2 hz1 hz2
      obtain ⟨x, hx⟩ : ∃ x, cb.getD i0 0 = x := ⟨_, rfl⟩
      obtain ⟨y, hy⟩ : ∃ y, cb'.getD i0 0 = y := ⟨_, rfl⟩
      rw [hx] at HK1
      rw [hy] at HK2
      have HX := Lib.hid hx
      have HY := Lib.hid hy
      clear hx hy
      by_cases hxy : x = y
      · have HXY := Lib.hid hxy
        have q1 : (x != y) = false := by rw [bne_eq_false_iff_eq]; exact hxy
        clear hxy
        go_wp2_with (first | ((with_reducible refine isl ?_); first | ((with_reducible apply ld hs.b0); exact rfl; exact rfl; exact rfl; exact rfl; kernel_rfl) | ((with_reducible apply ld hs.b1); exact rfl; exact rfl; exact rfl; exact rfl; kernel_rfl) | ((with_reducible apply ld hs.b2); exact rfl; exact rfl; exact rfl; exact rfl; kernel_rfl) | ((with_reducible apply st hs.b0); exact rfl; exact rfl; exact rfl; exact rfl; exact rfl; exact rfl; kernel_rfl; exact rfl; clear hs; intro w hs) | ((with_reducible apply st hs.b1); exact rfl; exact rfl; exact rfl; exact rfl; exact rfl; exact rfl; kernel_rfl; exact rfl; clear hs; intro w hs) | ((with_reducible apply st hs.b2); exact rfl; exact rfl; exact rfl; exact rfl; exact rfl; exact rfl; kernel_rfl; exact rfl; clear hs; intro w hs) | ((with_reducible apply stc hs.b0); exact rfl; exact rfl; exact rfl; exact rfl; exact rfl; kernel_rfl; exact rfl; clear hs; intro w hs) | ((with_reducible apply stc hs.b1); exact rfl; exact rfl; exact rfl; exact rfl; exact rfl; kernel_rfl; exact rfl; clear hs; intro w hs) | ((with_reducible apply stc hs.b2); exact rfl; exact rfl; exact rfl; exact rfl; exact rfl; kernel_rfl; exact rfl; clear hs; intro w hs) | ((with_reducible refine wrap hs ?_); clear hs; intro w hs) | ((with_reducible refine wrapn hs ?_); clear hs; intro w hs) | ((with_reducible refine wrapd hs ?_); clear hs; intro w hs)))
        refine region_mix [] [0, 1, 2, 3, 4, 5, 6, 7, 8, 9, 10] hs (fun _ h => h) (by kernel_rfl) (by kernel_rfl) (fun _ _ _ _ _ h => h) ?_
        simp only [segs, nths, nth, List.append_nil, List.nil_append, List.cons_append, List.map_cons, List.map_nil]
        refine seg_last (fun _ h => h) ?_; intro X f hne hf hcl; (try simp only [Act.put, List.setIfInBounds_toArray, List.set_cons_succ, List.set_cons_zero]); (repeat ((first | (apply ldcq; exact rfl; exact rfl; exact rfl; exact fun y => HK1.out _ ((hf y).dropN 2); exact one21) | (apply ldcq; exact rfl; exact rfl; exact rfl; exact fun y => HK2.out _ ((hf y).dropN 2); exact one21) | ((with_reducible apply ldq (fun x => (hf x).b0)); exact rfl; exact rfl; exact rfl; exact rfl; kernel_rfl) | ((with_reducible apply ldq (fun x => (hf x).b1)); exact rfl; exact rfl; exact rfl; exact rfl; kernel_rfl) | ((with_reducible apply ldq (fun x => (hf x).b2)); exact rfl; exact rfl; exact rfl; exact rfl; kernel_rfl) | go_big_quiet_step (fail)); (try simp only [Act.put, List.setIfInBounds_toArray, List.set_cons_succ, List.set_cons_zero]))); refine wpQuiet_nil ?_; clear hcl hf hne hs f X; intro w hs
        go_wp2_with fail
        go_roundw
        case rel => exact ⟨i0 + 1, by omega, by go_num, Lib.hid (fun j hj => by
          by_cases e : j = i0
          · rw [e, HX.out, HY.out, HXY.out]
          · exact HI.out j (by omega)), by refine sb_from ?_ hs; repeat constructor⟩
        case measure => simp [intOf]; omega
      · have HF : Hid (decide (cb = cb') = false) := Lib.hid (decide_eq_false fun h => hxy (by rw [← HX.out, ← HY.out, h]))
        have q1 : (x != y) = true := bne_iff_ne.2 hxy
        clear hxy
        go_wp2_with (first | ((with_reducible refine isl ?_); first | ((with_reducible apply ld hs.b0); exact rfl; exact rfl; exact rfl; exact rfl; kernel_rfl) | ((with_reducible apply ld hs.b1); exact rfl; exact rfl; exact rfl; exact rfl; kernel_rfl) | ((with_reducible apply ld hs.b2); exact rfl; exact rfl; exact rfl; exact rfl; kernel_rfl) | ((with_reducible apply st hs.b0); exact rfl; exact rfl; exact rfl; exact rfl; exact rfl; exact rfl; kernel_rfl; exact rfl; clear hs; intro w hs) | ((with_reducible apply st hs.b1); exact rfl; exact rfl; exact rfl; exact rfl; exact rfl; exact rfl; kernel_rfl; exact rfl; clear hs; intro w hs) | ((with_reducible apply st hs.b2); exact rfl; exact rfl; exact rfl; exact rfl; exact rfl; exact rfl; kernel_rfl; exact rfl; clear hs; intro w hs) | ((with_reducible apply stc hs.b0); exact rfl; exact rfl; exact rfl; exact rfl; exact rfl; kernel_rfl; exact rfl; clear hs; intro w hs) | ((with_reducible apply stc hs.b1); exact rfl; exact rfl; exact rfl; exact rfl; exact rfl; kernel_rfl; exact rfl; clear hs; intro w hs) | ((with_reducible apply stc hs.b2); exact rfl; exact rfl; exact rfl; exact rfl; exact rfl; kernel_rfl; exact rfl; clear hs; intro w hs) | ((with_reducible refine wrap hs ?_); clear hs; intro w hs) | ((with_reducible refine wrapn hs ?_); clear hs; intro w hs) | ((with_reducible refine wrapd hs ?_); clear hs; intro w hs)))
        refine region_mix [] [0, 1, 2, 3, 4, 5, 6, 7, 8, 9, 10] hs (fun _ h => h) (by kernel_rfl) (by kernel_rfl) (fun _ _ _ _ _ h => h) ?_
        simp only [segs, nths, nth, List.append_nil, List.nil_append, List.cons_append, List.map_cons, List.map_nil]
        refine seg_last (fun _ h => h) ?_; intro X f hne hf hcl; (try simp only [Act.put, List.setIfInBounds_toArray, List.set_cons_succ, List.set_cons_zero]); (repeat ((first | (apply ldcq; exact rfl; exact rfl; exact rfl; exact fun y => HK1.out _ ((hf y).dropN 2); exact one21) | (apply ldcq; exact rfl; exact rfl; exact rfl; exact fun y => HK2.out _ ((hf y).dropN 2); exact one21) | ((with_reducible apply ldq (fun x => (hf x).b0)); exact rfl; exact rfl; exact rfl; exact rfl; kernel_rfl) | ((with_reducible apply ldq (fun x => (hf x).b1)); exact rfl; exact rfl; exact rfl; exact rfl; kernel_rfl) | ((with_reducible apply ldq (fun x => (hf x).b2)); exact rfl; exact rfl; exact rfl; exact rfl; kernel_rfl) | go_big_quiet_step (fail)); (try simp only [Act.put, List.setIfInBounds_toArray, List.set_cons_succ, List.set_cons_zero]))); refine wpQuiet_nil ?_; clear hcl hf hne hs f X; intro w hs
        go_wp2_with fail
        go_ret
        exact ⟨ret_bool HF.out, hs.dropN 2⟩
    · have hge : ¬ (i0 : Int) < (n : Int) := by omega
      have HF : Hid (decide (cb = cb') = true) := Lib.hid (decide_eq_true (by
        apply List.ext_getElem (by rw [H1.out, H2.out])
        intro j h3 h4
        have := HI.out j (by have := H1.out; omega)
        rw [List.getD_eq_getElem?_getD, List.getD_eq_getElem?_getD, List.getElem?_eq_getElem h3, List.getElem?_eq_getElem h4] at this
        exact this))
      clear hin
      go_wp2_with (first | ((with_reducible refine isl ?_); first | ((with_reducible apply ld hs.b0); exact rfl; exact rfl; exact rfl; exact rfl; kernel_rfl) | ((with_reducible apply ld hs.b1); exact rfl; exact rfl; exact rfl; exact rfl; kernel_rfl) | ((with_reducible apply ld hs.b2); exact rfl; exact rfl; exact rfl; exact rfl; kernel_rfl) | ((with_reducible apply st hs.b0); exact rfl; exact rfl; exact rfl; exact rfl; exact rfl; exact rfl; kernel_rfl; exact rfl; clear hs; intro w hs) | ((with_reducible apply st hs.b1); exact rfl; exact rfl; exact rfl; exact rfl; exact rfl; exact rfl; kernel_rfl; exact rfl; clear hs; intro w hs) | ((with_reducible apply st hs.b2); exact rfl; exact rfl; exact rfl; exact rfl; exact rfl; exact rfl; kernel_rfl; exact rfl; clear hs; intro w hs) | ((with_reducible apply stc hs.b0); exact rfl; exact rfl; exact rfl; exact rfl; exact rfl; kernel_rfl; exact rfl; clear hs; intro w hs) | ((with_reducible apply stc hs.b1); exact rfl; exact rfl; exact rfl; exact rfl; exact rfl; kernel_rfl; exact rfl; clear hs; intro w hs) | ((with_reducible apply stc hs.b2); exact rfl; exact rfl; exact rfl; exact rfl; exact rfl; kernel_rfl; exact rfl; clear hs; intro w hs) | ((with_reducible refine wrap hs ?_); clear hs; intro w hs) | ((with_reducible refine wrapn hs ?_); clear hs; intro w hs) | ((with_reducible refine wrapd hs ?_); clear hs; intro w hs)))
      go_ret
      exact ⟨ret_bool HF.out, hs.dropN 2⟩
theorem samecell16 {c d : C} {a1 a2 : Option Addr} {n1 n2 p1 p2 : Nat} (h1 : c.comb.length = n1) (h2 : d.comb.length = n2) (h1000 : n1 ≤ 1000) (R1 : ∀ w', sat W H w' → Reads w' (.slice a1 n1 p1) (runes c.comb)) (R2 : ∀ w', sat W H w' → Reads w' (.slice a2 n2 p2) (runes d.comb)) (hs : sat W H w) : Calls Try.prog 78 #[cA c (.slice a1 n1 p1), cA d (.slice a2 n2 p2)] w fun e w' => e = .returned (.bool (decide (c = d))) ∧ sat W H w' := by
  by_cases he : c.r = d.r ∧ c.w = d.w ∧ c.a = d.a ∧ n1 = n2
  · obtain ⟨e1, e2, e3, rfl⟩ := he
    exact samecell16_eq ⟨e1, e2, e3⟩ h1 h2 h1000 R1 R2 hs
  · have hne : decide (c = d) = false := decide_eq_false (by rintro rfl; exact he ⟨rfl, rfl, rfl, h1.symm.trans h2⟩)
    rw [hne]
    exact samecell16_no he hs
theorem RC.len {a : Option Addr} {n c : Nat} {l : List C} (h : RC W H a n c l) : n = l.length := by
  obtain ⟨ps, rfl, S, _⟩ := h
  have := S.len.1
  rw [this, rws_len, List.length_map]
/-- A cell of what reads as cells. -/
theorem RC.get {a : Option Addr} {n c k : Nat} {l : List C} (h : RC W H a n c l) (hs : sat W H w) {x : C} (hx : l[k]? = some x) : ∃ (g off : Nat) (ax : Option Addr) (px : Nat), a = some ⟨g, off, none⟩ ∧ (∀ w', sat W H w' → w'.rangeAt g (off + k * 6) (cV x (.slice ax x.comb.length px))) ∧ ∀ w', sat W H w' → Reads w' (.slice ax x.comb.length px) (runes x.comb) := by
  obtain ⟨ps, rfl, S, R⟩ := h
  rw [List.getElem?_map] at hx
  obtain ⟨y, hy, rfl⟩ : ∃ y, ps[k]? = some y ∧ y.c = x := by
    cases hp : ps[k]? with
    | none => rw [hp] at hx; cases hx
    | some y => rw [hp] at hx; exact ⟨y, rfl, by simpa using hx⟩
  obtain ⟨_, g, off, rfl, hc⟩ := S.get hs (rws_get hy)
  exact ⟨g, off, y.a, y.p, rfl, hc, R y (List.mem_of_getElem? hy)⟩
set_option maxHeartbeats 1000000 in
theorem same15 {a1 a2 : Option Addr} {n1 n2 c1 c2 : Nat} {l m : List C} (h1000 : n1 ≤ 1000) (h4 : ∀ c ∈ l, c.comb.length ≤ 1000) (R1 : RC W H a1 n1 c1 l) (R2 : RC W H a2 n2 c2 m) (hs : sat W H w) : Calls Try.prog 61 #[.slice a1 n1 c1, .slice a2 n2 c2] w fun e w' => e = .returned (.bool (decide (l = m))) ∧ sat W H w' := by
  have H1 := Lib.hid R1.len
  have H2 := Lib.hid R2.len
  have HR1 := Lib.hid R1
  have HR2 := Lib.hid R2
  have H4 := Lib.hid h4
  clear R1 R2 h4
  by_cases hn : n1 = n2
  · subst hn
    go_enter Try.func61, Try.ntmps61
    go_wp2_with fail
    go_loopw [5] (fun i wx => ∃ i0 : Nat, i0 ≤ n1 ∧ i = .int .i64 (i0 : Int) ∧ Hid (l.take i0 = m.take i0) ∧ sat W H wx) (fun i _ => ((n1 : Int) - intOf i).toNat)
    case atStart => exact ⟨0, Nat.zero_le _, rfl, Lib.hid rfl, hs⟩
    case round =>
      clear hs
      obtain ⟨i0, hi, rfl, HI, hs⟩ := hrel
      by_cases hin : i0 < n1
      · obtain ⟨x, hx⟩ : ∃ x, l[i0]? = some x := ⟨_, List.getElem?_eq_getElem (by have := H1.out; omega)⟩
        obtain ⟨y, hy⟩ : ∃ y, m[i0]? = some y := ⟨_, List.getElem?_eq_getElem (by have := H2.out; omega)⟩
        obtain ⟨g1, o1, ax, px, rfl, k1, r1⟩ := HR1.out.get hs hx
        obtain ⟨g2, o2, ay, py, rfl, k2, r2⟩ := HR2.out.get hs hy
        have HK1 := Lib.hid k1
        have HK2 := Lib.hid k2
        have HRX := Lib.hid r1
        have HRY := Lib.hid r2
        have HX := Lib.hid hx
        have HY := Lib.hid hy
        have HX4 : Hid (x.comb.length ≤ 1000) := Lib.hid (H4.out x (List.mem_of_getElem? hx))
        clear hx hy k1 k2 r1 r2
        by_cases hxy : x = y
        · have HXY := Lib.hid hxy
          have HB : Hid (decide (x = y) = true) := Lib.hid (decide_eq_true hxy)
          clear hxy
          go_wp2_with fail
          refine region_mix [([0, 1, 2, 3, 4, 5, 6, 7], [8])] [9] hs (fun _ h => h) (by kernel_rfl) (by kernel_rfl) (fun _ _ _ _ _ h => h) ?_
          simp only [segs, nths, nth, List.append_nil, List.nil_append, List.cons_append, List.map_cons, List.map_nil]
          refine seg_reads (fun _ h => h) ?_; intro X f hne hf hcl; (try simp only [Act.put, List.setIfInBounds_toArray, List.set_cons_succ, List.set_cons_zero]); (repeat ((first | ((with_reducible apply ldscq (cs := cV x (.slice ax x.comb.length px))); exact rfl; exact rfl; exact rfl; exact fun y => HK1.out _ (hf y); exact row41) | ((with_reducible apply ldscq (cs := cV y (.slice ay y.comb.length py))); exact rfl; exact rfl; exact rfl; exact fun y => HK2.out _ (hf y); exact row41) | go_big_quiet_step (fail)); (try simp only [Act.put, List.setIfInBounds_toArray, List.set_cons_succ, List.set_cons_zero]))); refine wpQuiet_nil ?_; clear hcl hf hne hs f X; intro w hs
          go_wp2_with (first | (go_at_call 78; refine (samecell16 rfl rfl HX4.out HRX.out HRY.out hs).mono ?_; clear hs; rintro e w ⟨rfl, hs⟩; rw [HB.out]) | ((with_reducible refine isl ?_); first | ((with_reducible refine wrap hs ?_); clear hs; intro w hs) | ((with_reducible refine wrapn hs ?_); clear hs; intro w hs) | ((with_reducible refine wrapd hs ?_); clear hs; intro w hs)))
          (first | (refine seg_on hs (by first | exact fun _ h => h | exact fun _ h => h.drop | exact fun _ h => h.drop.drop | exact fun _ h => h.drop.drop.drop) (fun _ h => h) ?_; clear hs; intro hs) | (refine seg_on hs.made (by first | exact fun _ h => h | exact fun _ h => h.drop | exact fun _ h => h.drop.drop | exact fun _ h => h.drop.drop.drop) (fun _ h => h) ?_; clear hs; intro hs) | (refine seg_on hs.drew (by first | exact fun _ h => h | exact fun _ h => h.drop | exact fun _ h => h.drop.drop | exact fun _ h => h.drop.drop.drop) (fun _ h => h) ?_; clear hs; intro hs) | (refine seg_on hs.drew.made (by first | exact fun _ h => h | exact fun _ h => h.drop | exact fun _ h => h.drop.drop | exact fun _ h => h.drop.drop.drop) (fun _ h => h) ?_; clear hs; intro hs) | (refine seg_on (hs.drewN _) (by first | exact fun _ h => h | exact fun _ h => h.drop | exact fun _ h => h.drop.drop | exact fun _ h => h.drop.drop.drop) (fun _ h => h) ?_; clear hs; intro hs))
          refine seg_last (fun _ h => h) ?_; intro X f hne hf hcl; (try simp only [Act.put, List.setIfInBounds_toArray, List.set_cons_succ, List.set_cons_zero]); (repeat ((first | ((with_reducible apply ldscq (cs := cV x (.slice ax x.comb.length px))); exact rfl; exact rfl; exact rfl; exact fun y => HK1.out _ (hf y); exact row41) | ((with_reducible apply ldscq (cs := cV y (.slice ay y.comb.length py))); exact rfl; exact rfl; exact rfl; exact fun y => HK2.out _ (hf y); exact row41) | go_big_quiet_step (fail)); (try simp only [Act.put, List.setIfInBounds_toArray, List.set_cons_succ, List.set_cons_zero]))); refine wpQuiet_nil ?_; clear hcl hf hne hs f X; intro w hs
          go_wp2_with fail
          go_roundw
          case rel => exact ⟨i0 + 1, by omega, by go_num, Lib.hid (by rw [List.take_add_one, List.take_add_one, HX.out, HY.out, HI.out, HXY.out]), hs⟩
          case measure => simp [intOf]; omega
        · have HB : Hid (decide (x = y) = false) := Lib.hid (decide_eq_false hxy)
          have HF : Hid (decide (l = m) = false) := Lib.hid (decide_eq_false fun h => hxy (by
            have h1 := HX.out
            rw [h, HY.out] at h1
            exact (Option.some.inj h1).symm))
          clear hxy
          go_wp2_with fail
          refine region_mix [([0, 1, 2, 3, 4, 5, 6, 7], [8])] [9] hs (fun _ h => h) (by kernel_rfl) (by kernel_rfl) (fun _ _ _ _ _ h => h) ?_
          simp only [segs, nths, nth, List.append_nil, List.nil_append, List.cons_append, List.map_cons, List.map_nil]
          refine seg_reads (fun _ h => h) ?_; intro X f hne hf hcl; (try simp only [Act.put, List.setIfInBounds_toArray, List.set_cons_succ, List.set_cons_zero]); (repeat ((first | ((with_reducible apply ldscq (cs := cV x (.slice ax x.comb.length px))); exact rfl; exact rfl; exact rfl; exact fun y => HK1.out _ (hf y); exact row41) | ((with_reducible apply ldscq (cs := cV y (.slice ay y.comb.length py))); exact rfl; exact rfl; exact rfl; exact fun y => HK2.out _ (hf y); exact row41) | go_big_quiet_step (fail)); (try simp only [Act.put, List.setIfInBounds_toArray, List.set_cons_succ, List.set_cons_zero]))); refine wpQuiet_nil ?_; clear hcl hf hne hs f X; intro w hs
          go_wp2_with (first | (go_at_call 78; refine (samecell16 rfl rfl HX4.out HRX.out HRY.out hs).mono ?_; clear hs; rintro e w ⟨rfl, hs⟩; rw [HB.out]) | ((with_reducible refine isl ?_); first | ((with_reducible refine wrap hs ?_); clear hs; intro w hs) | ((with_reducible refine wrapn hs ?_); clear hs; intro w hs) | ((with_reducible refine wrapd hs ?_); clear hs; intro w hs)))
          (first | (refine seg_on hs (by first | exact fun _ h => h | exact fun _ h => h.drop | exact fun _ h => h.drop.drop | exact fun _ h => h.drop.drop.drop) (fun _ h => h) ?_; clear hs; intro hs) | (refine seg_on hs.made (by first | exact fun _ h => h | exact fun _ h => h.drop | exact fun _ h => h.drop.drop | exact fun _ h => h.drop.drop.drop) (fun _ h => h) ?_; clear hs; intro hs) | (refine seg_on hs.drew (by first | exact fun _ h => h | exact fun _ h => h.drop | exact fun _ h => h.drop.drop | exact fun _ h => h.drop.drop.drop) (fun _ h => h) ?_; clear hs; intro hs) | (refine seg_on hs.drew.made (by first | exact fun _ h => h | exact fun _ h => h.drop | exact fun _ h => h.drop.drop | exact fun _ h => h.drop.drop.drop) (fun _ h => h) ?_; clear hs; intro hs) | (refine seg_on (hs.drewN _) (by first | exact fun _ h => h | exact fun _ h => h.drop | exact fun _ h => h.drop.drop | exact fun _ h => h.drop.drop.drop) (fun _ h => h) ?_; clear hs; intro hs))
          refine seg_last (fun _ h => h) ?_; intro X f hne hf hcl; (try simp only [Act.put, List.setIfInBounds_toArray, List.set_cons_succ, List.set_cons_zero]); (repeat ((first | ((with_reducible apply ldscq (cs := cV x (.slice ax x.comb.length px))); exact rfl; exact rfl; exact rfl; exact fun y => HK1.out _ (hf y); exact row41) | ((with_reducible apply ldscq (cs := cV y (.slice ay y.comb.length py))); exact rfl; exact rfl; exact rfl; exact fun y => HK2.out _ (hf y); exact row41) | go_big_quiet_step (fail)); (try simp only [Act.put, List.setIfInBounds_toArray, List.set_cons_succ, List.set_cons_zero]))); refine wpQuiet_nil ?_; clear hcl hf hne hs f X; intro w hs
          go_wp2_with fail
          go_ret
          exact ⟨ret_bool HF.out, hs⟩
      · have hge : ¬ (i0 : Int) < (n1 : Int) := by omega
        have HF : Hid (decide (l = m) = true) := Lib.hid (decide_eq_true (by
          have h := HI.out
          rwa [List.take_of_length_le (by have := H1.out; omega), List.take_of_length_le (by have := H2.out; omega)] at h))
        clear hin
        go_wp2_with fail
        go_ret
        exact ⟨ret_bool HF.out, hs⟩
  · have HF : Hid (decide (l = m) = false) := Lib.hid (decide_eq_false (by rintro rfl; exact hn (H1.out.trans H2.out.symm)))
    have q1 : ((n1 : Int) != (n2 : Int)) = true := bne_iff_ne.2 (by omega)
    have q2 : ¬ (n1 : Int) = (n2 : Int) := by omega
    go_enter Try.func61, Try.ntmps61
    go_wp2_with fail
    go_ret
    exact ⟨ret_bool HF.out, hs⟩
end Go.Proofs.Ytdcagaaanbgcoaa
