/- Law 6: RowWhole. -/
import Derived.Test.YteoeeiinngpogaaV22
namespace Go.Proofs.Yteoeeiinngpogaa
open Go.RowKit Go.Mem Go.Cells
theorem _root_.Go.Cells.Ok.around {l : List C} (h : Ok l) : ∀ (i : Nat) (x : C), l[i]? = some x → (x.w = 0 ∧ mayC x.r ∧ x.comb.length ≤ 4) ∨ (x.w = 1 ∧ mayC x.r ∧ x.comb.length ≤ 4 ∧ ∃ y, l[i + 1]? = some y ∧ y.w = 2 ∧ y.a = x.a) ∨ (x.w = 2 ∧ x.r = 0 ∧ x.comb = [] ∧ ∃ j z, i = j + 1 ∧ l[j]? = some z ∧ z.w = 1) := by
  induction h with
  | nil => intro i x hx; simp at hx
  | @one c l h1 h2 h3 hl ih =>
    intro i x hx
    cases i with
    | zero => simp at hx; subst hx; exact .inl ⟨h1, h2, h3⟩
    | succ i =>
      rw [List.getElem?_cons_succ] at hx
      rcases ih i x hx with h | ⟨a, b, c', y, hy, d⟩ | ⟨a, b, c', j, z, rfl, hz, d⟩
      · exact .inl h
      · exact .inr (.inl ⟨a, b, c', y, by rw [List.getElem?_cons_succ]; exact hy, d⟩)
      · exact .inr (.inr ⟨a, b, c', j + 1, z, rfl, by rw [List.getElem?_cons_succ]; exact hz, d⟩)
  | @two c d l h1 h2 h3 h4 h5 h6 h7 hl ih =>
    intro i x hx
    match i with
    | 0 => simp at hx; subst hx; exact .inr (.inl ⟨h1, h3, h4, d, rfl, h2, h7.symm⟩)
    | 1 => simp at hx; subst hx; exact .inr (.inr ⟨h2, h5, h6, 0, c, rfl, rfl, h1⟩)
    | i + 2 =>
      rw [List.getElem?_cons_succ, List.getElem?_cons_succ] at hx
      rcases ih i x hx with h | ⟨a, b, c', y, hy, d⟩ | ⟨a, b, c', j, z, rfl, hz, d⟩
      · exact .inl h
      · exact .inr (.inl ⟨a, b, c', y, by rw [List.getElem?_cons_succ, List.getElem?_cons_succ]; exact hy, d⟩)
      · exact .inr (.inr ⟨a, b, c', j + 2, z, rfl, by rw [List.getElem?_cons_succ, List.getElem?_cons_succ]; exact hz, d⟩)
variable {W w : World} {H : List HProp}
attribute [local irreducible] World.setCell World.setCells World.alloc World.drew World.drewN Calls sat cel own blk old wpQuiet wpList cmb cmb1 rwP cls rws wi wh fst_ World.rangeAt
theorem whole3_no {aS : Option Addr} {nS cS : Nat} {cols : Int} (h : ¬ (1 ≤ cols ∧ cols ≤ 512)) (hs : sat W H w) : Calls Try.prog 3 #[.int .i64 cols, .slice aS nS cS] w fun e w' => e = .returned (.bool true) ∧ sat W H w' := by
  have HH := Lib.hid h
  clear h
  go_enter Try.func3, Try.ntmps3
  go_wp2_with (first | (go_at_call 7; refine (new7_no HH.out hs).mono ?_; clear hs; rintro e w ⟨rfl, hs⟩) | (go_at_call 8; refine (known8 hs).mono ?_; clear hs; rintro e w ⟨rfl, hs⟩) | ((with_reducible refine isl ?_); first | ((with_reducible refine wrap hs ?_); clear hs; intro w hs) | ((with_reducible refine wrapn hs ?_); clear hs; intro w hs) | ((with_reducible refine wrapd hs ?_); clear hs; intro w hs)))
  go_ret
  exact ⟨rfl, hs⟩
theorem whole3_long {aS : Option Addr} {nS cS c0 : Nat} (h0 : 1 ≤ c0) (h1 : c0 ≤ 512) (hl : 100 < nS ∨ 100 < c0) (hs : sat W H w) : Calls Try.prog 3 #[.int .i64 (c0 : Int), .slice aS nS cS] w fun e w' => e = .returned (.bool true) ∧ sat W H w' := by
  by_cases hl1 : 100 < nS
  · have q1 : decide ((100 : Int) < (nS : Int)) = true := decide_eq_true (by omega)
    clear hl
    go_enter Try.func3, Try.ntmps3
    go_wp2_with (first | (go_at_call 7; refine (new7 h0 h1 hs).mono ?_; clear hs; rintro e w ⟨b, rfl, hs⟩) | (go_at_call 8; refine (known8 hs).mono ?_; clear hs; rintro e w ⟨rfl, hs⟩) | ((with_reducible refine isl ?_); first | ((with_reducible refine wrap hs ?_); clear hs; intro w hs) | ((with_reducible refine wrapn hs ?_); clear hs; intro w hs) | ((with_reducible refine wrapd hs ?_); clear hs; intro w hs)))
    go_ret
    exact ⟨rfl, hs.drop⟩
  · have q1 : decide ((100 : Int) < (nS : Int)) = false := decide_eq_false (by omega)
    have q2 : decide ((100 : Int) < (c0 : Int)) = true := decide_eq_true (by omega)
    clear hl hl1
    go_enter Try.func3, Try.ntmps3
    go_wp2_with (first | (go_at_call 7; refine (new7 h0 h1 hs).mono ?_; clear hs; rintro e w ⟨b, rfl, hs⟩) | (go_at_call 8; refine (known8 hs).mono ?_; clear hs; rintro e w ⟨rfl, hs⟩) | ((with_reducible refine isl ?_); first | ((with_reducible refine wrap hs ?_); clear hs; intro w hs) | ((with_reducible refine wrapn hs ?_); clear hs; intro w hs) | ((with_reducible refine wrapd hs ?_); clear hs; intro w hs)))
    go_ret
    exact ⟨rfl, hs.drop⟩
theorem rnew9_1 (hs : sat W H w) : Calls Try.prog 9 #[.int .i64 1] w fun e w' => ∃ b, e = .returned (.pointer (some ⟨b, 0, none⟩)) ∧ sat W (rwP 68 b (List.replicate 1 (bC At.z)) :: H) w' := rnew9 (n := 1) (by decide) hs
set_option maxHeartbeats 4000000 in
set_option maxRecDepth 8000 in
theorem whole3_go {aS : Option Addr} {nS cS c0 : Nat} {l : List Op} (h0 : 1 ≤ c0) (h1 : c0 ≤ 100) (hl : nS ≤ 100) (S : SR 8 W H aS nS cS (l.map opL)) (hs : sat W H w) : Calls Try.prog 3 #[.int .i64 (c0 : Int), .slice aS nS cS] w fun e w' => e = .returned (.bool true) ∧ sat W H w' := by
  have q1 : decide ((100 : Int) < (nS : Int)) = false := decide_eq_false (by omega)
  have q2 : decide ((100 : Int) < (c0 : Int)) = false := decide_eq_false (by omega)
  have h512 : c0 ≤ 512 := by omega
  have HS := Lib.hid S
  have hmax : (nS : Int) ≤ 9223372036854775807 := by omega
  clear S hl h1
  go_enter Try.func3, Try.ntmps3
  go_wp2_with (first | (go_at_call 7; refine (new7 h0 h512 hs).mono ?_; clear hs; rintro e w ⟨b, rfl, hs⟩) | (go_at_call 9; refine (rnew9_1 hs).mono ?_; clear hs; rintro e w ⟨b2, rfl, hs⟩) | ((with_reducible refine isl ?_); first | ((with_reducible refine wrap hs ?_); clear hs; intro w hs) | ((with_reducible refine wrapn hs ?_); clear hs; intro w hs) | ((with_reducible refine wrapd hs ?_); clear hs; intro w hs)))
  go_loopw [37] (fun i wx => ∃ (i0 : Nat) (ls ms : List C) (n q1 : Nat), i0 ≤ nS ∧ i = .int .i64 (i0 : Int) ∧ Hid (ls.length = n) ∧ Hid (Ok ls) ∧ 0 < n ∧ n ≤ 512 ∧ Hid (ms.length = q1) ∧ Hid (Ok ms) ∧ 0 < q1 ∧ q1 ≤ 512 ∧ sat W (rwP 55 b ls :: rwP 68 b2 ms :: H) wx) (fun i _ => ((nS : Int) - intOf i).toNat)
  case atStart => exact ⟨0, _, _, c0, 1, Nat.zero_le _, rfl, Lib.hid (List.length_replicate ..), Lib.hid (Ok.blanks _ _), by omega, h512, Lib.hid (List.length_replicate ..), Lib.hid (Ok.blanks _ _), by omega, by omega, by refine sb_from ?_ hs; repeat constructor⟩
  case round =>
    clear hs
    obtain ⟨i0, ls, ms, n, qn, hi, rfl, HN, HOK, hn0, hn1, HM, HOKM, hq0, hq1, hs⟩ := hrel
    by_cases hin : i0 < nS
    · obtain ⟨⟨kind, col, q, r, wide, ⟨fg, bg, fl⟩⟩, _, g1, o1, rfl, hcc⟩ := HS.out.getm (hs.dropN 2) hin
      have HCC := Lib.hid hcc
      clear hcc
      have hin2 : (i0 : Int) < (nS : Int) := by omega
      by_cases k6 : kind = 6
      · subst k6
        by_cases hq : 100 < q
        · have g1 : decide (100 < q) = true := decide_eq_true hq
          clear hq
          go_wp2_with (first | ((with_reducible refine isl ?_); first | ((with_reducible apply ldsc (cs := opL ⟨6, col, q, r, wide, ⟨fg, bg, fl⟩⟩)); exact rfl; exact rfl; exact rfl; exact HCC.out _ (hs.dropN 2); exact row35) | ((with_reducible refine wrap hs ?_); clear hs; generalize wr.heap.size = z9; intro w hs) | ((with_reducible apply stsw hs.b0); exact rfl; exact rfl; exact rfl; exact rfl; exact row35; exact rfl; exact rfl; exact rfl; clear hs; intro w hs) | ((with_reducible apply ld hs.b0); exact rfl; exact rfl; exact rfl; exact rfl; kernel_rfl) | ((with_reducible apply ld hs.b1); exact rfl; exact rfl; exact rfl; exact rfl; kernel_rfl) | ((with_reducible apply ld hs.b2); exact rfl; exact rfl; exact rfl; exact rfl; kernel_rfl) | ((with_reducible apply ld hs.b3); exact rfl; exact rfl; exact rfl; exact rfl; kernel_rfl) | ((with_reducible apply st hs.b0); exact rfl; exact rfl; exact rfl; exact rfl; exact rfl; exact rfl; kernel_rfl; exact rfl; clear hs; intro w hs) | ((with_reducible apply st hs.b1); exact rfl; exact rfl; exact rfl; exact rfl; exact rfl; exact rfl; kernel_rfl; exact rfl; clear hs; intro w hs) | ((with_reducible apply st hs.b2); exact rfl; exact rfl; exact rfl; exact rfl; exact rfl; exact rfl; kernel_rfl; exact rfl; clear hs; intro w hs) | ((with_reducible apply st hs.b3); exact rfl; exact rfl; exact rfl; exact rfl; exact rfl; exact rfl; kernel_rfl; exact rfl; clear hs; intro w hs) | ((with_reducible apply stc hs.b0); exact rfl; exact rfl; exact rfl; exact rfl; exact rfl; kernel_rfl; exact rfl; clear hs; intro w hs) | ((with_reducible apply stc hs.b1); exact rfl; exact rfl; exact rfl; exact rfl; exact rfl; kernel_rfl; exact rfl; clear hs; intro w hs) | ((with_reducible apply stc hs.b2); exact rfl; exact rfl; exact rfl; exact rfl; exact rfl; kernel_rfl; exact rfl; clear hs; intro w hs) | ((with_reducible apply stc hs.b3); exact rfl; exact rfl; exact rfl; exact rfl; exact rfl; kernel_rfl; exact rfl; clear hs; intro w hs) | ((with_reducible refine wrap hs ?_); clear hs; intro w hs) | ((with_reducible refine wrapn hs ?_); clear hs; intro w hs) | ((with_reducible refine wrapd hs ?_); clear hs; intro w hs)))
          go_roundw
          case rel => exact ⟨i0 + 1, ls, ms, n, qn, by omega, by go_num, HN, HOK, hn0, hn1, HM, HOKM, hq0, hq1, by refine sb_from ?_ hs; repeat constructor⟩
          case measure => simp [intOf]; omega
        · have g1 : decide (100 < q) = false := decide_eq_false hq
          obtain ⟨L2, hL2⟩ : ∃ L, (doG ls ⟨6, col, q, r, wide, ⟨fg, bg, fl⟩⟩).1 = L := ⟨_, rfl⟩
          have HD := Lib.hid hL2
          have HOK2 : Hid (Ok L2) := Lib.hid (by rw [← hL2]; exact doG_ok HOK.out _)
          obtain ⟨m, hm⟩ : ∃ m, L2.length = m := ⟨_, rfl⟩
          have hmm : 0 < m ∧ m ≤ 512 := by
            rw [← hm, ← hL2, doG_len HOK.out]
            split
            · simp only at *; omega
            · rw [HN.out]; omega
          obtain ⟨hm0, hm1⟩ := hmm
          have HN2 := Lib.hid hm
          clear hL2 hm
          obtain ⟨M2, hM2⟩ : ∃ L, (doG ms ⟨6, col, q, r, wide, ⟨fg, bg, fl⟩⟩).1 = L := ⟨_, rfl⟩
          have HDM := Lib.hid hM2
          have HOKM2 : Hid (Ok M2) := Lib.hid (by rw [← hM2]; exact doG_ok HOKM.out _)
          obtain ⟨q2, hqq⟩ : ∃ q2, M2.length = q2 := ⟨_, rfl⟩
          have hqm : 0 < q2 ∧ q2 ≤ 512 := by
            rw [← hqq, ← hM2, doG_len HOKM.out]
            split
            · simp only at *; omega
            · rw [HM.out]; omega
          obtain ⟨hq20, hq21⟩ := hqm
          have HM2 := Lib.hid hqq
          clear hM2 hqq
          clear hq
          have HM4 : Hid (∀ c ∈ L2, c.comb.length ≤ 4) := Lib.hid HOK2.out.m4
          go_wp2_with (first | (go_at_call 10; refine (do10 (o := ⟨6, col, q, r, wide, ⟨fg, bg, fl⟩⟩) HN.out hn0 hn1 HOK.out HM.out hq0 hq1 HOKM.out (by apply sk_from (hs := hs); repeat constructor)).mono ?_; clear hs; rintro e w ⟨v, rfl, _, hs⟩; rw [HD.out, HDM.out] at hs) | (go_at_call 11; refine (cells11 HN2.out hm0 (by omega) HM4.out (by apply sk_from (hs := hs); repeat constructor)).mono ?_; clear hs; rintro e w ⟨a, p, rfl, hs⟩) | ((with_reducible refine isl ?_); first | ((with_reducible apply ldsc (cs := opL ⟨6, col, q, r, wide, ⟨fg, bg, fl⟩⟩)); exact rfl; exact rfl; exact rfl; exact HCC.out _ (hs.dropN 2); exact row35) | ((with_reducible refine wrap hs ?_); clear hs; generalize wr.heap.size = z9; intro w hs) | ((with_reducible apply stsw hs.b0); exact rfl; exact rfl; exact rfl; exact rfl; exact row35; exact rfl; exact rfl; exact rfl; clear hs; intro w hs) | ((with_reducible apply lds 8 hs.b0); exact rfl; exact rfl; exact rfl; exact row35; exact rfl; exact rfl) | ((with_reducible apply lds 8 hs.b1); exact rfl; exact rfl; exact rfl; exact row35; exact rfl; exact rfl) | ((with_reducible apply lds 8 hs.b2); exact rfl; exact rfl; exact rfl; exact row35; exact rfl; exact rfl) | ((with_reducible apply ld hs.b0); exact rfl; exact rfl; exact rfl; exact rfl; kernel_rfl) | ((with_reducible apply ld hs.b1); exact rfl; exact rfl; exact rfl; exact rfl; kernel_rfl) | ((with_reducible apply ld hs.b2); exact rfl; exact rfl; exact rfl; exact rfl; kernel_rfl) | ((with_reducible apply ld hs.b3); exact rfl; exact rfl; exact rfl; exact rfl; kernel_rfl) | ((with_reducible apply st hs.b0); exact rfl; exact rfl; exact rfl; exact rfl; exact rfl; exact rfl; kernel_rfl; exact rfl; clear hs; intro w hs) | ((with_reducible apply st hs.b1); exact rfl; exact rfl; exact rfl; exact rfl; exact rfl; exact rfl; kernel_rfl; exact rfl; clear hs; intro w hs) | ((with_reducible apply st hs.b2); exact rfl; exact rfl; exact rfl; exact rfl; exact rfl; exact rfl; kernel_rfl; exact rfl; clear hs; intro w hs) | ((with_reducible apply st hs.b3); exact rfl; exact rfl; exact rfl; exact rfl; exact rfl; exact rfl; kernel_rfl; exact rfl; clear hs; intro w hs) | ((with_reducible apply stc hs.b0); exact rfl; exact rfl; exact rfl; exact rfl; exact rfl; kernel_rfl; exact rfl; clear hs; intro w hs) | ((with_reducible apply stc hs.b1); exact rfl; exact rfl; exact rfl; exact rfl; exact rfl; kernel_rfl; exact rfl; clear hs; intro w hs) | ((with_reducible apply stc hs.b2); exact rfl; exact rfl; exact rfl; exact rfl; exact rfl; kernel_rfl; exact rfl; clear hs; intro w hs) | ((with_reducible apply stc hs.b3); exact rfl; exact rfl; exact rfl; exact rfl; exact rfl; kernel_rfl; exact rfl; clear hs; intro w hs) | ((with_reducible refine wrap hs ?_); clear hs; intro w hs) | ((with_reducible refine wrapn hs ?_); clear hs; intro w hs) | ((with_reducible refine wrapd hs ?_); clear hs; intro w hs)))
          clear HD HDM
          obtain ⟨ps, hps, hs⟩ := cls_open HN2.out hs
          have HP : Hid (ps.length = m ∧ ps.map (·.c) = L2) := Lib.hid ⟨by rw [← HN2.out, ← hps, List.length_map], hps⟩
          obtain ⟨g, rfl⟩ := own_ptr hm0 hs
          clear hps
          replace hs : sat W (own 41 6 (.slice (some ⟨g, 0, none⟩) m p) m (rws ps).flatten :: rwP 55 b L2 :: rwP 68 b2 M2 :: H) w := by refine sb_from ?_ hs; repeat constructor
          go_loopw [57] (fun j wy => ∃ j0 : Nat, j0 ≤ m ∧ j = .int .i64 (j0 : Int) ∧ sat W (own 41 6 (.slice (some ⟨g, 0, none⟩) m p) m (rws ps).flatten :: rwP 55 b L2 :: rwP 68 b2 M2 :: H) wy) (fun j _ => ((m : Int) - intOf j).toNat)
          case atStart => exact ⟨0, Nat.zero_le _, rfl, hs⟩
          case round =>
            clear hs
            obtain ⟨j0, hj, rfl, hs⟩ := hrel
            by_cases hjn : j0 < m
            · have hj2 : (j0 : Int) < (m : Int) := by omega
              obtain ⟨x, hx⟩ : ∃ x, ps[j0]? = some x := ⟨_, List.getElem?_eq_getElem (by rw [HP.out.1]; exact hjn)⟩
              have hcx : L2[j0]? = some x.c := by rw [← HP.out.2, List.getElem?_map, hx]; rfl
              have hall := HOK2.out.around j0 _ hcx
              have HX := Lib.hid (rws_get hx)
              obtain ⟨⟨r1, cb, wd, ⟨f1, f2, f3⟩⟩, xa, xp⟩ := x
              clear hcx hx
              rcases hall with ⟨rfl, hmy, hc4⟩ | ⟨rfl, hmy, hc4, y0, hy0, hyw, hya⟩ | ⟨rfl, rfl, rfl, i1, z0, rfl, hz0, hzw⟩
              · have HMX : Hid (decide (mayC r1) = true) := Lib.hid (decide_eq_true hmy)
                obtain ⟨nc, hnc⟩ : ∃ nc, cb.length = nc := ⟨_, rfl⟩
                simp only [pcV, pcS, hnc] at HX hc4
                clear hmy hnc
                go_wp2_with (first | (first | ((with_reducible apply ldor hs.b0); exact rfl; exact rfl; exact rfl; exact HX.out; exact rws6 _; exact row41) | ((with_reducible apply ldor hs.b1); exact rfl; exact rfl; exact rfl; exact HX.out; exact rws6 _; exact row41)) | (go_at_call 12; refine (rune12 hs).mono ?_; clear hs; rintro e w ⟨rfl, hs⟩; rw [HMX.out]) | ((with_reducible refine isl ?_); first | ((with_reducible refine wrap hs ?_); clear hs; generalize wy.heap.size = z12; intro w hs) | ((with_reducible apply stsw hs.b0); exact rfl; exact rfl; exact rfl; exact rfl; exact row41; exact rfl; exact rfl; exact rfl; clear hs; intro w hs) | ((with_reducible apply ld hs.b0); exact rfl; exact rfl; exact rfl; exact rfl; kernel_rfl) | ((with_reducible apply st hs.b0); exact rfl; exact rfl; exact rfl; exact rfl; exact rfl; exact rfl; kernel_rfl; exact rfl; clear hs; intro w hs) | ((with_reducible apply stc hs.b0); exact rfl; exact rfl; exact rfl; exact rfl; exact rfl; kernel_rfl; exact rfl; clear hs; intro w hs) | ((with_reducible refine wrap hs ?_); clear hs; intro w hs) | ((with_reducible refine wrapn hs ?_); clear hs; intro w hs) | ((with_reducible refine wrapd hs ?_); clear hs; intro w hs)))
                go_roundw
                case rel => exact ⟨j0 + 1, by omega, by go_num, by refine sb_from ?_ hs; repeat constructor⟩
                case measure => simp [intOf]; omega
              · have HMX : Hid (decide (mayC r1) = true) := Lib.hid (decide_eq_true hmy)
                obtain ⟨y, hy, rfl⟩ : ∃ y, ps[j0 + 1]? = some y ∧ y.c = y0 := by
                  rw [← HP.out.2, List.getElem?_map] at hy0
                  cases h : ps[j0 + 1]? with
                  | none => rw [h] at hy0; cases hy0
                  | some y => rw [h] at hy0; exact ⟨y, rfl, by simpa using hy0⟩
                have hjm : j0 + 1 < m := by have := (List.getElem?_eq_some_iff.1 hy).1; have := HP.out.1; omega
                have HY := Lib.hid (rws_get hy)
                obtain ⟨⟨ry, cby, wy_, aty⟩, ya, yp⟩ := y
                simp only at hyw hya
                subst hyw hya
                obtain ⟨nc, hnc⟩ : ∃ nc, cb.length = nc := ⟨_, rfl⟩
                simp only [pcV, pcS, hnc] at HX HY hc4
                have qah : ¬ ((j0 : Int) + 1) = (m : Int) := by omega
                have qi : (j0 : Int) + 1 < (m : Int) := by omega
                have qj : (0 : Int) ≤ (j0 : Int) + 1 := by omega
                have qa1 : (((j0 : Int) + 1) == (m : Int)) = false := beq_eq_false_iff_ne.2 qah
                have qa2 : decide (((j0 : Int) + 1) = (m : Int)) = false := decide_eq_false qah
                have qa3 : (((j0 : Int) + 1) != (m : Int)) = true := bne_iff_ne.2 qah
                clear hmy hnc hy hy0 qah hjm
                go_upto_region 21 with (first | (first | ((with_reducible apply ldor hs.b0); exact rfl; exact rfl; exact rfl; exact HX.out; exact rws6 _; exact row41) | ((with_reducible apply ldor hs.b1); exact rfl; exact rfl; exact rfl; exact HX.out; exact rws6 _; exact row41)) | ((with_reducible refine isl ?_); first | ((with_reducible refine wrap hs ?_); clear hs; generalize wy.heap.size = z12; intro w hs) | ((with_reducible apply stsw hs.b0); exact rfl; exact rfl; exact rfl; exact rfl; exact row41; exact rfl; exact rfl; exact rfl; clear hs; intro w hs) | ((with_reducible apply ld hs.b0); exact rfl; exact rfl; exact rfl; exact rfl; kernel_rfl) | ((with_reducible apply st hs.b0); exact rfl; exact rfl; exact rfl; exact rfl; exact rfl; exact rfl; kernel_rfl; exact rfl; clear hs; intro w hs) | ((with_reducible apply stc hs.b0); exact rfl; exact rfl; exact rfl; exact rfl; exact rfl; kernel_rfl; exact rfl; clear hs; intro w hs) | ((with_reducible refine wrap hs ?_); clear hs; intro w hs) | ((with_reducible refine wrapn hs ?_); clear hs; intro w hs) | ((with_reducible refine wrapd hs ?_); clear hs; intro w hs)))
                refine region_mix [([0, 1, 2, 3, 4, 5, 6, 7, 8, 9, 10, 11, 12, 13, 14, 15, 16, 17, 18, 19, 20, 21, 22, 23, 24, 25, 26, 27], [28])] [29, 30] hs (fun _ h => h) (by kernel_rfl) (by kernel_rfl) (fun _ _ _ _ _ h => h) ?_
                simp only [segs, nths, nth, List.append_nil, List.nil_append, List.cons_append, List.map_cons, List.map_nil]
                refine seg_reads (fun _ h => h) ?_; intro X f hne hf hcl; (try simp only [Act.put, List.setIfInBounds_toArray, List.set_cons_succ, List.set_cons_zero]); (repeat ((first | ((with_reducible apply ldsq 3 (fun x => (hf x).b0)); exact rfl; exact rfl; exact rfl; exact row33; exact rfl; exact rfl) | ((with_reducible apply ldofq (fun x => (hf x).b0)); exact rfl; exact rfl; exact rfl; exact HY.out; exact rws6 _; exact rfl; exact one5) | ((with_reducible apply ldofq (fun x => (hf x).b1)); exact rfl; exact rfl; exact rfl; exact HY.out; exact rws6 _; exact rfl; exact one5) | ((with_reducible apply ldofq (fun x => (hf x).b2)); exact rfl; exact rfl; exact rfl; exact HY.out; exact rws6 _; exact rfl; exact one5) | ((with_reducible apply ldosrq (m := 3) (fun x => (hf x).b0)); exact rfl; exact rfl; exact rfl; exact HY.out; exact rws6 _; exact row33; exact rfl; exact rfl) | ((with_reducible apply ldosrq (m := 3) (fun x => (hf x).b1)); exact rfl; exact rfl; exact rfl; exact HY.out; exact rws6 _; exact row33; exact rfl; exact rfl) | ((with_reducible apply ldosrq (m := 3) (fun x => (hf x).b2)); exact rfl; exact rfl; exact rfl; exact HY.out; exact rws6 _; exact row33; exact rfl; exact rfl) | ((with_reducible apply ldq (fun x => (hf x).b0)); exact rfl; exact rfl; exact rfl; exact rfl; kernel_rfl) | ((with_reducible apply ldq (fun x => (hf x).b1)); exact rfl; exact rfl; exact rfl; exact rfl; kernel_rfl) | go_big_quiet_step (fail)); (try simp only [Act.put, List.setIfInBounds_toArray, List.set_cons_succ, List.set_cons_zero]))); refine wpQuiet_nil ?_; clear hcl hf hne hs f X; intro w hs
                go_wp2_with (first | (go_at_call 12; refine (rune12 hs).mono ?_; clear hs; rintro e w ⟨rfl, hs⟩; rw [HMX.out]) | ((with_reducible refine isl ?_); first | ((with_reducible apply ld hs.b0); exact rfl; exact rfl; exact rfl; exact rfl; kernel_rfl) | ((with_reducible apply st hs.b0); exact rfl; exact rfl; exact rfl; exact rfl; exact rfl; exact rfl; kernel_rfl; exact rfl; clear hs; intro w hs) | ((with_reducible apply stc hs.b0); exact rfl; exact rfl; exact rfl; exact rfl; exact rfl; kernel_rfl; exact rfl; clear hs; intro w hs) | ((with_reducible refine wrap hs ?_); clear hs; intro w hs) | ((with_reducible refine wrapn hs ?_); clear hs; intro w hs) | ((with_reducible refine wrapd hs ?_); clear hs; intro w hs)))
                (first | (refine seg_on hs (by first | exact fun _ h => h | exact fun _ h => h.drop | exact fun _ h => h.drop.drop | exact fun _ h => h.drop.drop.drop) (fun _ h => h) ?_; clear hs; intro hs) | (refine seg_on hs.made (by first | exact fun _ h => h | exact fun _ h => h.drop | exact fun _ h => h.drop.drop | exact fun _ h => h.drop.drop.drop) (fun _ h => h) ?_; clear hs; intro hs) | (refine seg_on hs.drew (by first | exact fun _ h => h | exact fun _ h => h.drop | exact fun _ h => h.drop.drop | exact fun _ h => h.drop.drop.drop) (fun _ h => h) ?_; clear hs; intro hs) | (refine seg_on hs.drew.made (by first | exact fun _ h => h | exact fun _ h => h.drop | exact fun _ h => h.drop.drop | exact fun _ h => h.drop.drop.drop) (fun _ h => h) ?_; clear hs; intro hs) | (refine seg_on (hs.drewN _) (by first | exact fun _ h => h | exact fun _ h => h.drop | exact fun _ h => h.drop.drop | exact fun _ h => h.drop.drop.drop) (fun _ h => h) ?_; clear hs; intro hs))
                refine seg_last (fun _ h => h) ?_; intro X f hne hf hcl; (try simp only [Act.put, List.setIfInBounds_toArray, List.set_cons_succ, List.set_cons_zero]); (repeat ((first | ((with_reducible apply ldsq 3 (fun x => (hf x).b0)); exact rfl; exact rfl; exact rfl; exact row33; exact rfl; exact rfl) | ((with_reducible apply ldofq (fun x => (hf x).b0)); exact rfl; exact rfl; exact rfl; exact HY.out; exact rws6 _; exact rfl; exact one5) | ((with_reducible apply ldofq (fun x => (hf x).b1)); exact rfl; exact rfl; exact rfl; exact HY.out; exact rws6 _; exact rfl; exact one5) | ((with_reducible apply ldofq (fun x => (hf x).b2)); exact rfl; exact rfl; exact rfl; exact HY.out; exact rws6 _; exact rfl; exact one5) | ((with_reducible apply ldosrq (m := 3) (fun x => (hf x).b0)); exact rfl; exact rfl; exact rfl; exact HY.out; exact rws6 _; exact row33; exact rfl; exact rfl) | ((with_reducible apply ldosrq (m := 3) (fun x => (hf x).b1)); exact rfl; exact rfl; exact rfl; exact HY.out; exact rws6 _; exact row33; exact rfl; exact rfl) | ((with_reducible apply ldosrq (m := 3) (fun x => (hf x).b2)); exact rfl; exact rfl; exact rfl; exact HY.out; exact rws6 _; exact row33; exact rfl; exact rfl) | ((with_reducible apply ldq (fun x => (hf x).b0)); exact rfl; exact rfl; exact rfl; exact rfl; kernel_rfl) | ((with_reducible apply ldq (fun x => (hf x).b1)); exact rfl; exact rfl; exact rfl; exact rfl; kernel_rfl) | go_big_quiet_step (fail)); (try simp only [Act.put, List.setIfInBounds_toArray, List.set_cons_succ, List.set_cons_zero]))); refine wpQuiet_nil ?_; clear hcl hf hne hs f X; intro w hs
                go_wp2_with (first | ((with_reducible refine isl ?_); first | ((with_reducible apply ld hs.b0); exact rfl; exact rfl; exact rfl; exact rfl; kernel_rfl) | ((with_reducible apply st hs.b0); exact rfl; exact rfl; exact rfl; exact rfl; exact rfl; exact rfl; kernel_rfl; exact rfl; clear hs; intro w hs) | ((with_reducible apply stc hs.b0); exact rfl; exact rfl; exact rfl; exact rfl; exact rfl; kernel_rfl; exact rfl; clear hs; intro w hs) | ((with_reducible refine wrap hs ?_); clear hs; intro w hs) | ((with_reducible refine wrapn hs ?_); clear hs; intro w hs) | ((with_reducible refine wrapd hs ?_); clear hs; intro w hs)))
                go_roundw
                case rel => exact ⟨j0 + 1, by omega, by go_num, by refine sb_from ?_ hs; repeat constructor⟩
                case measure => simp [intOf]; omega
              · obtain ⟨z, hz, rfl⟩ : ∃ z, ps[i1]? = some z ∧ z.c = z0 := by
                  rw [← HP.out.2, List.getElem?_map] at hz0
                  cases h : ps[i1]? with
                  | none => rw [h] at hz0; cases hz0
                  | some y => rw [h] at hz0; exact ⟨y, rfl, by simpa using hz0⟩
                have HZ := Lib.hid (rws_get hz)
                obtain ⟨⟨rz, cbz, wz, atz⟩, za, zp⟩ := z
                simp only at hzw
                subst hzw
                simp only [pcV, pcS] at HX HZ
                have hsub : (((i1 + 1 : Nat) : Int) - 1) = (i1 : Int) := by omega
                have hi1 : (i1 : Int) < (m : Int) := by omega
                have qzh : ¬ ((i1 + 1 : Nat) : Int) = 0 := by omega
                have qz1 : (((i1 + 1 : Nat) : Int) == 0) = false := beq_eq_false_iff_ne.2 qzh
                have qz2 : decide (((i1 + 1 : Nat) : Int) = 0) = false := decide_eq_false qzh
                have qz3 : (((i1 + 1 : Nat) : Int) != 0) = true := bne_iff_ne.2 qzh
                clear hz hz0 qzh
                go_wp2_with (first | (first | ((with_reducible apply ldor hs.b0); exact rfl; exact rfl; exact rfl; exact HX.out; exact rws6 _; exact row41) | ((with_reducible apply ldor hs.b1); exact rfl; exact rfl; exact rfl; exact HX.out; exact rws6 _; exact row41)) | (first | ((with_reducible apply ldof hs.b0); exact rfl; exact rfl; exact rfl; exact HZ.out; exact rws6 _; exact rfl; exact one5) | ((with_reducible apply ldof hs.b1); exact rfl; exact rfl; exact rfl; exact HZ.out; exact rws6 _; exact rfl; exact one5)) | ((with_reducible refine isl ?_); first | ((with_reducible refine wrap hs ?_); clear hs; generalize wy.heap.size = z12; intro w hs) | ((with_reducible apply stsw hs.b0); exact rfl; exact rfl; exact rfl; exact rfl; exact row41; exact rfl; exact rfl; exact rfl; clear hs; intro w hs) | ((with_reducible apply ld hs.b0); exact rfl; exact rfl; exact rfl; exact rfl; kernel_rfl) | ((with_reducible apply st hs.b0); exact rfl; exact rfl; exact rfl; exact rfl; exact rfl; exact rfl; kernel_rfl; exact rfl; clear hs; intro w hs) | ((with_reducible apply stc hs.b0); exact rfl; exact rfl; exact rfl; exact rfl; exact rfl; kernel_rfl; exact rfl; clear hs; intro w hs) | ((with_reducible refine wrap hs ?_); clear hs; intro w hs) | ((with_reducible refine wrapn hs ?_); clear hs; intro w hs) | ((with_reducible refine wrapd hs ?_); clear hs; intro w hs)))
                go_roundw
                case rel => exact ⟨i1 + 1 + 1, by omega, by go_num, by refine sb_from ?_ hs; repeat constructor⟩
                case measure => simp [intOf]; omega
            · have hge : ¬ (j0 : Int) < (m : Int) := by omega
              clear hjn
              go_wp2_with fail
              go_roundw
              case rel => exact ⟨i0 + 1, L2, M2, m, q2, by omega, by go_num, HN2, HOK2, hm0, hm1, HM2, HOKM2, hq20, hq21, by refine sb_from ?_ hs; repeat constructor⟩
              case measure => simp [intOf]; omega
      · have qe : (kind == 6) = false := beq_eq_false_iff_ne.2 k6
        have qb : decide (kind = 6) = false := decide_eq_false k6
        obtain ⟨L2, hL2⟩ : ∃ L, (doG ls ⟨kind, col, q, r, wide, ⟨fg, bg, fl⟩⟩).1 = L := ⟨_, rfl⟩
        have HD := Lib.hid hL2
        have HOK2 : Hid (Ok L2) := Lib.hid (by rw [← hL2]; exact doG_ok HOK.out _)
        obtain ⟨m, hm⟩ : ∃ m, L2.length = m := ⟨_, rfl⟩
        have hmm : 0 < m ∧ m ≤ 512 := by
          rw [← hm, ← hL2, doG_len HOK.out]
          split
          · simp only at *; omega
          · rw [HN.out]; omega
        obtain ⟨hm0, hm1⟩ := hmm
        have HN2 := Lib.hid hm
        clear hL2 hm
        obtain ⟨M2, hM2⟩ : ∃ L, (doG ms ⟨kind, col, q, r, wide, ⟨fg, bg, fl⟩⟩).1 = L := ⟨_, rfl⟩
        have HDM := Lib.hid hM2
        have HOKM2 : Hid (Ok M2) := Lib.hid (by rw [← hM2]; exact doG_ok HOKM.out _)
        obtain ⟨q2, hqq⟩ : ∃ q2, M2.length = q2 := ⟨_, rfl⟩
        have hqm : 0 < q2 ∧ q2 ≤ 512 := by
          rw [← hqq, ← hM2, doG_len HOKM.out]
          split
          · simp only at *; omega
          · rw [HM.out]; omega
        obtain ⟨hq20, hq21⟩ := hqm
        have HM2 := Lib.hid hqq
        clear hM2 hqq
        have HM4 : Hid (∀ c ∈ L2, c.comb.length ≤ 4) := Lib.hid HOK2.out.m4
        go_wp2_with (first | (go_at_call 10; refine (do10 (o := ⟨kind, col, q, r, wide, ⟨fg, bg, fl⟩⟩) HN.out hn0 hn1 HOK.out HM.out hq0 hq1 HOKM.out (by apply sk_from (hs := hs); repeat constructor)).mono ?_; clear hs; rintro e w ⟨v, rfl, _, hs⟩; rw [HD.out, HDM.out] at hs) | (go_at_call 11; refine (cells11 HN2.out hm0 (by omega) HM4.out (by apply sk_from (hs := hs); repeat constructor)).mono ?_; clear hs; rintro e w ⟨a, p, rfl, hs⟩) | ((with_reducible refine isl ?_); first | ((with_reducible apply ldsc (cs := opL ⟨kind, col, q, r, wide, ⟨fg, bg, fl⟩⟩)); exact rfl; exact rfl; exact rfl; exact HCC.out _ (hs.dropN 2); exact row35) | ((with_reducible refine wrap hs ?_); clear hs; generalize wr.heap.size = z9; intro w hs) | ((with_reducible apply stsw hs.b0); exact rfl; exact rfl; exact rfl; exact rfl; exact row35; exact rfl; exact rfl; exact rfl; clear hs; intro w hs) | ((with_reducible apply lds 8 hs.b0); exact rfl; exact rfl; exact rfl; exact row35; exact rfl; exact rfl) | ((with_reducible apply lds 8 hs.b1); exact rfl; exact rfl; exact rfl; exact row35; exact rfl; exact rfl) | ((with_reducible apply lds 8 hs.b2); exact rfl; exact rfl; exact rfl; exact row35; exact rfl; exact rfl) | ((with_reducible apply ld hs.b0); exact rfl; exact rfl; exact rfl; exact rfl; kernel_rfl) | ((with_reducible apply ld hs.b1); exact rfl; exact rfl; exact rfl; exact rfl; kernel_rfl) | ((with_reducible apply ld hs.b2); exact rfl; exact rfl; exact rfl; exact rfl; kernel_rfl) | ((with_reducible apply ld hs.b3); exact rfl; exact rfl; exact rfl; exact rfl; kernel_rfl) | ((with_reducible apply st hs.b0); exact rfl; exact rfl; exact rfl; exact rfl; exact rfl; exact rfl; kernel_rfl; exact rfl; clear hs; intro w hs) | ((with_reducible apply st hs.b1); exact rfl; exact rfl; exact rfl; exact rfl; exact rfl; exact rfl; kernel_rfl; exact rfl; clear hs; intro w hs) | ((with_reducible apply st hs.b2); exact rfl; exact rfl; exact rfl; exact rfl; exact rfl; exact rfl; kernel_rfl; exact rfl; clear hs; intro w hs) | ((with_reducible apply st hs.b3); exact rfl; exact rfl; exact rfl; exact rfl; exact rfl; exact rfl; kernel_rfl; exact rfl; clear hs; intro w hs) | ((with_reducible apply stc hs.b0); exact rfl; exact rfl; exact rfl; exact rfl; exact rfl; kernel_rfl; exact rfl; clear hs; intro w hs) | ((with_reducible apply stc hs.b1); exact rfl; exact rfl; exact rfl; exact rfl; exact rfl; kernel_rfl; exact rfl; clear hs; intro w hs) | ((with_reducible apply stc hs.b2); exact rfl; exact rfl; exact rfl; exact rfl; exact rfl; kernel_rfl; exact rfl; clear hs; intro w hs) | ((with_reducible apply stc hs.b3); exact rfl; exact rfl; exact rfl; exact rfl; exact rfl; kernel_rfl; exact rfl; clear hs; intro w hs) | ((with_reducible refine wrap hs ?_); clear hs; intro w hs) | ((with_reducible refine wrapn hs ?_); clear hs; intro w hs) | ((with_reducible refine wrapd hs ?_); clear hs; intro w hs)))
        clear HD HDM
        obtain ⟨ps, hps, hs⟩ := cls_open HN2.out hs
        have HP : Hid (ps.length = m ∧ ps.map (·.c) = L2) := Lib.hid ⟨by rw [← HN2.out, ← hps, List.length_map], hps⟩
        obtain ⟨g, rfl⟩ := own_ptr hm0 hs
        clear hps
        replace hs : sat W (own 41 6 (.slice (some ⟨g, 0, none⟩) m p) m (rws ps).flatten :: rwP 55 b L2 :: rwP 68 b2 M2 :: H) w := by refine sb_from ?_ hs; repeat constructor
        go_loopw [57] (fun j wy => ∃ j0 : Nat, j0 ≤ m ∧ j = .int .i64 (j0 : Int) ∧ sat W (own 41 6 (.slice (some ⟨g, 0, none⟩) m p) m (rws ps).flatten :: rwP 55 b L2 :: rwP 68 b2 M2 :: H) wy) (fun j _ => ((m : Int) - intOf j).toNat)
        case atStart => exact ⟨0, Nat.zero_le _, rfl, hs⟩
        case round =>
          clear hs
          obtain ⟨j0, hj, rfl, hs⟩ := hrel
          by_cases hjn : j0 < m
          · have hj2 : (j0 : Int) < (m : Int) := by omega
            obtain ⟨x, hx⟩ : ∃ x, ps[j0]? = some x := ⟨_, List.getElem?_eq_getElem (by rw [HP.out.1]; exact hjn)⟩
            have hcx : L2[j0]? = some x.c := by rw [← HP.out.2, List.getElem?_map, hx]; rfl
            have hall := HOK2.out.around j0 _ hcx
            have HX := Lib.hid (rws_get hx)
            obtain ⟨⟨r1, cb, wd, ⟨f1, f2, f3⟩⟩, xa, xp⟩ := x
            clear hcx hx
            rcases hall with ⟨rfl, hmy, hc4⟩ | ⟨rfl, hmy, hc4, y0, hy0, hyw, hya⟩ | ⟨rfl, rfl, rfl, i1, z0, rfl, hz0, hzw⟩
            · have HMX : Hid (decide (mayC r1) = true) := Lib.hid (decide_eq_true hmy)
              obtain ⟨nc, hnc⟩ : ∃ nc, cb.length = nc := ⟨_, rfl⟩
              simp only [pcV, pcS, hnc] at HX hc4
              clear hmy hnc
              go_wp2_with (first | (first | ((with_reducible apply ldor hs.b0); exact rfl; exact rfl; exact rfl; exact HX.out; exact rws6 _; exact row41) | ((with_reducible apply ldor hs.b1); exact rfl; exact rfl; exact rfl; exact HX.out; exact rws6 _; exact row41)) | (go_at_call 12; refine (rune12 hs).mono ?_; clear hs; rintro e w ⟨rfl, hs⟩; rw [HMX.out]) | ((with_reducible refine isl ?_); first | ((with_reducible refine wrap hs ?_); clear hs; generalize wy.heap.size = z12; intro w hs) | ((with_reducible apply stsw hs.b0); exact rfl; exact rfl; exact rfl; exact rfl; exact row41; exact rfl; exact rfl; exact rfl; clear hs; intro w hs) | ((with_reducible apply ld hs.b0); exact rfl; exact rfl; exact rfl; exact rfl; kernel_rfl) | ((with_reducible apply st hs.b0); exact rfl; exact rfl; exact rfl; exact rfl; exact rfl; exact rfl; kernel_rfl; exact rfl; clear hs; intro w hs) | ((with_reducible apply stc hs.b0); exact rfl; exact rfl; exact rfl; exact rfl; exact rfl; kernel_rfl; exact rfl; clear hs; intro w hs) | ((with_reducible refine wrap hs ?_); clear hs; intro w hs) | ((with_reducible refine wrapn hs ?_); clear hs; intro w hs) | ((with_reducible refine wrapd hs ?_); clear hs; intro w hs)))
              go_roundw
              case rel => exact ⟨j0 + 1, by omega, by go_num, by refine sb_from ?_ hs; repeat constructor⟩
              case measure => simp [intOf]; omega
            · have HMX : Hid (decide (mayC r1) = true) := Lib.hid (decide_eq_true hmy)
              obtain ⟨y, hy, rfl⟩ : ∃ y, ps[j0 + 1]? = some y ∧ y.c = y0 := by
                rw [← HP.out.2, List.getElem?_map] at hy0
                cases h : ps[j0 + 1]? with
                | none => rw [h] at hy0; cases hy0
                | some y => rw [h] at hy0; exact ⟨y, rfl, by simpa using hy0⟩
              have hjm : j0 + 1 < m := by have := (List.getElem?_eq_some_iff.1 hy).1; have := HP.out.1; omega
              have HY := Lib.hid (rws_get hy)
              obtain ⟨⟨ry, cby, wy_, aty⟩, ya, yp⟩ := y
              simp only at hyw hya
              subst hyw hya
              obtain ⟨nc, hnc⟩ : ∃ nc, cb.length = nc := ⟨_, rfl⟩
              simp only [pcV, pcS, hnc] at HX HY hc4
              have qah : ¬ ((j0 : Int) + 1) = (m : Int) := by omega
              have qi : (j0 : Int) + 1 < (m : Int) := by omega
              have qj : (0 : Int) ≤ (j0 : Int) + 1 := by omega
              have qa1 : (((j0 : Int) + 1) == (m : Int)) = false := beq_eq_false_iff_ne.2 qah
              have qa2 : decide (((j0 : Int) + 1) = (m : Int)) = false := decide_eq_false qah
              have qa3 : (((j0 : Int) + 1) != (m : Int)) = true := bne_iff_ne.2 qah
              clear hmy hnc hy hy0 qah hjm
              go_upto_region 21 with (first | (first | ((with_reducible apply ldor hs.b0); exact rfl; exact rfl; exact rfl; exact HX.out; exact rws6 _; exact row41) | ((with_reducible apply ldor hs.b1); exact rfl; exact rfl; exact rfl; exact HX.out; exact rws6 _; exact row41)) | ((with_reducible refine isl ?_); first | ((with_reducible refine wrap hs ?_); clear hs; generalize wy.heap.size = z12; intro w hs) | ((with_reducible apply stsw hs.b0); exact rfl; exact rfl; exact rfl; exact rfl; exact row41; exact rfl; exact rfl; exact rfl; clear hs; intro w hs) | ((with_reducible apply ld hs.b0); exact rfl; exact rfl; exact rfl; exact rfl; kernel_rfl) | ((with_reducible apply st hs.b0); exact rfl; exact rfl; exact rfl; exact rfl; exact rfl; exact rfl; kernel_rfl; exact rfl; clear hs; intro w hs) | ((with_reducible apply stc hs.b0); exact rfl; exact rfl; exact rfl; exact rfl; exact rfl; kernel_rfl; exact rfl; clear hs; intro w hs) | ((with_reducible refine wrap hs ?_); clear hs; intro w hs) | ((with_reducible refine wrapn hs ?_); clear hs; intro w hs) | ((with_reducible refine wrapd hs ?_); clear hs; intro w hs)))
              refine region_mix [([0, 1, 2, 3, 4, 5, 6, 7, 8, 9, 10, 11, 12, 13, 14, 15, 16, 17, 18, 19, 20, 21, 22, 23, 24, 25, 26, 27], [28])] [29, 30] hs (fun _ h => h) (by kernel_rfl) (by kernel_rfl) (fun _ _ _ _ _ h => h) ?_
              simp only [segs, nths, nth, List.append_nil, List.nil_append, List.cons_append, List.map_cons, List.map_nil]
              refine seg_reads (fun _ h => h) ?_; intro X f hne hf hcl; (try simp only [Act.put, List.setIfInBounds_toArray, List.set_cons_succ, List.set_cons_zero]); (repeat ((first | ((with_reducible apply ldsq 3 (fun x => (hf x).b0)); exact rfl; exact rfl; exact rfl; exact row33; exact rfl; exact rfl) | ((with_reducible apply ldofq (fun x => (hf x).b0)); exact rfl; exact rfl; exact rfl; exact HY.out; exact rws6 _; exact rfl; exact one5) | ((with_reducible apply ldofq (fun x => (hf x).b1)); exact rfl; exact rfl; exact rfl; exact HY.out; exact rws6 _; exact rfl; exact one5) | ((with_reducible apply ldofq (fun x => (hf x).b2)); exact rfl; exact rfl; exact rfl; exact HY.out; exact rws6 _; exact rfl; exact one5) | ((with_reducible apply ldosrq (m := 3) (fun x => (hf x).b0)); exact rfl; exact rfl; exact rfl; exact HY.out; exact rws6 _; exact row33; exact rfl; exact rfl) | ((with_reducible apply ldosrq (m := 3) (fun x => (hf x).b1)); exact rfl; exact rfl; exact rfl; exact HY.out; exact rws6 _; exact row33; exact rfl; exact rfl) | ((with_reducible apply ldosrq (m := 3) (fun x => (hf x).b2)); exact rfl; exact rfl; exact rfl; exact HY.out; exact rws6 _; exact row33; exact rfl; exact rfl) | ((with_reducible apply ldq (fun x => (hf x).b0)); exact rfl; exact rfl; exact rfl; exact rfl; kernel_rfl) | ((with_reducible apply ldq (fun x => (hf x).b1)); exact rfl; exact rfl; exact rfl; exact rfl; kernel_rfl) | go_big_quiet_step (fail)); (try simp only [Act.put, List.setIfInBounds_toArray, List.set_cons_succ, List.set_cons_zero]))); refine wpQuiet_nil ?_; clear hcl hf hne hs f X; intro w hs
              go_wp2_with (first | (go_at_call 12; refine (rune12 hs).mono ?_; clear hs; rintro e w ⟨rfl, hs⟩; rw [HMX.out]) | ((with_reducible refine isl ?_); first | ((with_reducible apply ld hs.b0); exact rfl; exact rfl; exact rfl; exact rfl; kernel_rfl) | ((with_reducible apply st hs.b0); exact rfl; exact rfl; exact rfl; exact rfl; exact rfl; exact rfl; kernel_rfl; exact rfl; clear hs; intro w hs) | ((with_reducible apply stc hs.b0); exact rfl; exact rfl; exact rfl; exact rfl; exact rfl; kernel_rfl; exact rfl; clear hs; intro w hs) | ((with_reducible refine wrap hs ?_); clear hs; intro w hs) | ((with_reducible refine wrapn hs ?_); clear hs; intro w hs) | ((with_reducible refine wrapd hs ?_); clear hs; intro w hs)))
              (first | (refine seg_on hs (by first | exact fun _ h => h | exact fun _ h => h.drop | exact fun _ h => h.drop.drop | exact fun _ h => h.drop.drop.drop) (fun _ h => h) ?_; clear hs; intro hs) | (refine seg_on hs.made (by first | exact fun _ h => h | exact fun _ h => h.drop | exact fun _ h => h.drop.drop | exact fun _ h => h.drop.drop.drop) (fun _ h => h) ?_; clear hs; intro hs) | (refine seg_on hs.drew (by first | exact fun _ h => h | exact fun _ h => h.drop | exact fun _ h => h.drop.drop | exact fun _ h => h.drop.drop.drop) (fun _ h => h) ?_; clear hs; intro hs) | (refine seg_on hs.drew.made (by first | exact fun _ h => h | exact fun _ h => h.drop | exact fun _ h => h.drop.drop | exact fun _ h => h.drop.drop.drop) (fun _ h => h) ?_; clear hs; intro hs) | (refine seg_on (hs.drewN _) (by first | exact fun _ h => h | exact fun _ h => h.drop | exact fun _ h => h.drop.drop | exact fun _ h => h.drop.drop.drop) (fun _ h => h) ?_; clear hs; intro hs))
              refine seg_last (fun _ h => h) ?_; intro X f hne hf hcl; (try simp only [Act.put, List.setIfInBounds_toArray, List.set_cons_succ, List.set_cons_zero]); (repeat ((first | ((with_reducible apply ldsq 3 (fun x => (hf x).b0)); exact rfl; exact rfl; exact rfl; exact row33; exact rfl; exact rfl) | ((with_reducible apply ldofq (fun x => (hf x).b0)); exact rfl; exact rfl; exact rfl; exact HY.out; exact rws6 _; exact rfl; exact one5) | ((with_reducible apply ldofq (fun x => (hf x).b1)); exact rfl; exact rfl; exact rfl; exact HY.out; exact rws6 _; exact rfl; exact one5) | ((with_reducible apply ldofq (fun x => (hf x).b2)); exact rfl; exact rfl; exact rfl; exact HY.out; exact rws6 _; exact rfl; exact one5) | ((with_reducible apply ldosrq (m := 3) (fun x => (hf x).b0)); exact rfl; exact rfl; exact rfl; exact HY.out; exact rws6 _; exact row33; exact rfl; exact rfl) | ((with_reducible apply ldosrq (m := 3) (fun x => (hf x).b1)); exact rfl; exact rfl; exact rfl; exact HY.out; exact rws6 _; exact row33; exact rfl; exact rfl) | ((with_reducible apply ldosrq (m := 3) (fun x => (hf x).b2)); exact rfl; exact rfl; exact rfl; exact HY.out; exact rws6 _; exact row33; exact rfl; exact rfl) | ((with_reducible apply ldq (fun x => (hf x).b0)); exact rfl; exact rfl; exact rfl; exact rfl; kernel_rfl) | ((with_reducible apply ldq (fun x => (hf x).b1)); exact rfl; exact rfl; exact rfl; exact rfl; kernel_rfl) | go_big_quiet_step (fail)); (try simp only [Act.put, List.setIfInBounds_toArray, List.set_cons_succ, List.set_cons_zero]))); refine wpQuiet_nil ?_; clear hcl hf hne hs f X; intro w hs
              go_wp2_with (first | ((with_reducible refine isl ?_); first | ((with_reducible apply ld hs.b0); exact rfl; exact rfl; exact rfl; exact rfl; kernel_rfl) | ((with_reducible apply st hs.b0); exact rfl; exact rfl; exact rfl; exact rfl; exact rfl; exact rfl; kernel_rfl; exact rfl; clear hs; intro w hs) | ((with_reducible apply stc hs.b0); exact rfl; exact rfl; exact rfl; exact rfl; exact rfl; kernel_rfl; exact rfl; clear hs; intro w hs) | ((with_reducible refine wrap hs ?_); clear hs; intro w hs) | ((with_reducible refine wrapn hs ?_); clear hs; intro w hs) | ((with_reducible refine wrapd hs ?_); clear hs; intro w hs)))
              go_roundw
              case rel => exact ⟨j0 + 1, by omega, by go_num, by refine sb_from ?_ hs; repeat constructor⟩
              case measure => simp [intOf]; omega
            · obtain ⟨z, hz, rfl⟩ : ∃ z, ps[i1]? = some z ∧ z.c = z0 := by
                rw [← HP.out.2, List.getElem?_map] at hz0
                cases h : ps[i1]? with
                | none => rw [h] at hz0; cases hz0
                | some y => rw [h] at hz0; exact ⟨y, rfl, by simpa using hz0⟩
              have HZ := Lib.hid (rws_get hz)
              obtain ⟨⟨rz, cbz, wz, atz⟩, za, zp⟩ := z
              simp only at hzw
              subst hzw
              simp only [pcV, pcS] at HX HZ
              have hsub : (((i1 + 1 : Nat) : Int) - 1) = (i1 : Int) := by omega
              have hi1 : (i1 : Int) < (m : Int) := by omega
              have qzh : ¬ ((i1 + 1 : Nat) : Int) = 0 := by omega
              have qz1 : (((i1 + 1 : Nat) : Int) == 0) = false := beq_eq_false_iff_ne.2 qzh
              have qz2 : decide (((i1 + 1 : Nat) : Int) = 0) = false := decide_eq_false qzh
              have qz3 : (((i1 + 1 : Nat) : Int) != 0) = true := bne_iff_ne.2 qzh
              clear hz hz0 qzh
              go_wp2_with (first | (first | ((with_reducible apply ldor hs.b0); exact rfl; exact rfl; exact rfl; exact HX.out; exact rws6 _; exact row41) | ((with_reducible apply ldor hs.b1); exact rfl; exact rfl; exact rfl; exact HX.out; exact rws6 _; exact row41)) | (first | ((with_reducible apply ldof hs.b0); exact rfl; exact rfl; exact rfl; exact HZ.out; exact rws6 _; exact rfl; exact one5) | ((with_reducible apply ldof hs.b1); exact rfl; exact rfl; exact rfl; exact HZ.out; exact rws6 _; exact rfl; exact one5)) | ((with_reducible refine isl ?_); first | ((with_reducible refine wrap hs ?_); clear hs; generalize wy.heap.size = z12; intro w hs) | ((with_reducible apply stsw hs.b0); exact rfl; exact rfl; exact rfl; exact rfl; exact row41; exact rfl; exact rfl; exact rfl; clear hs; intro w hs) | ((with_reducible apply ld hs.b0); exact rfl; exact rfl; exact rfl; exact rfl; kernel_rfl) | ((with_reducible apply st hs.b0); exact rfl; exact rfl; exact rfl; exact rfl; exact rfl; exact rfl; kernel_rfl; exact rfl; clear hs; intro w hs) | ((with_reducible apply stc hs.b0); exact rfl; exact rfl; exact rfl; exact rfl; exact rfl; kernel_rfl; exact rfl; clear hs; intro w hs) | ((with_reducible refine wrap hs ?_); clear hs; intro w hs) | ((with_reducible refine wrapn hs ?_); clear hs; intro w hs) | ((with_reducible refine wrapd hs ?_); clear hs; intro w hs)))
              go_roundw
              case rel => exact ⟨i1 + 1 + 1, by omega, by go_num, by refine sb_from ?_ hs; repeat constructor⟩
              case measure => simp [intOf]; omega
          · have hge : ¬ (j0 : Int) < (m : Int) := by omega
            clear hjn
            go_wp2_with fail
            go_roundw
            case rel => exact ⟨i0 + 1, L2, M2, m, q2, by omega, by go_num, HN2, HOK2, hm0, hm1, HM2, HOKM2, hq20, hq21, by refine sb_from ?_ hs; repeat constructor⟩
            case measure => simp [intOf]; omega
    · have hge : ¬ (i0 : Int) < (nS : Int) := by omega
      clear hin
      go_wp2_with (first | (go_at_call 8; refine (known8 hs).mono ?_; clear hs; rintro e w ⟨rfl, hs⟩) | ((with_reducible refine isl ?_); first | ((with_reducible refine wrap hs ?_); clear hs; intro w hs) | ((with_reducible refine wrapn hs ?_); clear hs; intro w hs) | ((with_reducible refine wrapd hs ?_); clear hs; intro w hs)))
      go_ret
      exact ⟨rfl, hs.dropN 2⟩
end Go.Proofs.Yteoeeiinngpogaa
