/- Law 9: ScreenBack's walk. -/
import Derived.Test.YtdcagaaanbgcoaaS12
namespace Go.Proofs.Ytdcagaaanbgcoaa
open Go.RowKit Go.Mem Go.Cells Go.Lines
variable {W w : World} {H : List HProp}
attribute [local irreducible] rowTy oneTy World.setCell World.setCells World.alloc World.drew World.drewN Calls sat cel own blk old wpQuiet wpList cmb cmb1 rwP cls rws wi wh fst_ World.rangeAt lrw lnP stP lsP dsP lvs frL downL upL pushs backL idv
set_option maxRecDepth 20000 in
theorem back3 {rows cols top bottom at2 n : Int} {a : At} (hs : sat W H w) :
    Calls Try.prog 3 #[.int .i64 rows, .int .i64 cols, .int .i64 top, .int .i64 bottom, .int .i64 at2, .int .i64 n, aV a] w fun e w' => e = .returned (.bool true) ∧ sat W H w' := by
  obtain ⟨fg, bg, fl⟩ := a
  by_cases hr : 12 < rows
  · have g1 : decide (12 < rows) = true := decide_eq_true hr
    go_enter Try.func3, Try.ntmps3
    go_wp2_with (first | (go_at_call 7; refine (known7 (by (apply sk_from (hs := hs); repeat constructor))).mono ?_; clear hs; rintro e w ⟨rfl, hs⟩) | ((with_reducible refine isl ?_); first | ((with_reducible apply ld hs.b0); exact rfl; exact rfl; exact rfl; exact rfl; kernel_rfl) | ((with_reducible apply st hs.b0); exact rfl; exact rfl; exact rfl; exact rfl; exact rfl; exact rfl; kernel_rfl; exact rfl; clear hs; intro w hs) | ((with_reducible apply stc hs.b0); exact rfl; exact rfl; exact rfl; exact rfl; exact rfl; kernel_rfl; exact rfl; clear hs; intro w hs) | ((with_reducible refine wrap hs ?_); clear hs; (first | generalize w.heap.size = z5); intro w hs) | ((with_reducible refine wrap hs ?_); clear hs; intro w hs) | ((with_reducible refine wrapn hs ?_); clear hs; intro w hs) | ((with_reducible refine wrapd hs ?_); clear hs; intro w hs)))
    go_ret
    exact ⟨rfl, hs.drop⟩
  have g1 : decide (12 < rows) = false := decide_eq_false hr
  by_cases hc : 20 < cols
  · have g2 : decide (20 < cols) = true := decide_eq_true hc
    go_enter Try.func3, Try.ntmps3
    go_wp2_with (first | (go_at_call 7; refine (known7 (by (apply sk_from (hs := hs); repeat constructor))).mono ?_; clear hs; rintro e w ⟨rfl, hs⟩) | ((with_reducible refine isl ?_); first | ((with_reducible apply ld hs.b0); exact rfl; exact rfl; exact rfl; exact rfl; kernel_rfl) | ((with_reducible apply st hs.b0); exact rfl; exact rfl; exact rfl; exact rfl; exact rfl; exact rfl; kernel_rfl; exact rfl; clear hs; intro w hs) | ((with_reducible apply stc hs.b0); exact rfl; exact rfl; exact rfl; exact rfl; exact rfl; kernel_rfl; exact rfl; clear hs; intro w hs) | ((with_reducible refine wrap hs ?_); clear hs; (first | generalize w.heap.size = z5); intro w hs) | ((with_reducible refine wrap hs ?_); clear hs; intro w hs) | ((with_reducible refine wrapn hs ?_); clear hs; intro w hs) | ((with_reducible refine wrapd hs ?_); clear hs; intro w hs)))
    go_ret
    exact ⟨rfl, hs.drop⟩
  have g2 : decide (20 < cols) = false := decide_eq_false hc
  by_cases hm : (1 ≤ rows ∧ rows ≤ 512) ∧ (1 ≤ cols ∧ cols ≤ 512)
  case neg =>
    go_enter Try.func3, Try.ntmps3
    go_wp2_with (first | (go_at_call 8; refine (smade8_no (most := 5) hm (by decide) hs).mono ?_; clear hs; rintro e w ⟨s, rfl, hs⟩) | (go_at_call 7; refine (known7 (by (apply sk_from (hs := hs); repeat constructor))).mono ?_; clear hs; rintro e w ⟨rfl, hs⟩) | ((with_reducible refine isl ?_); first | ((with_reducible apply ld hs.b0); exact rfl; exact rfl; exact rfl; exact rfl; kernel_rfl) | ((with_reducible apply st hs.b0); exact rfl; exact rfl; exact rfl; exact rfl; exact rfl; exact rfl; kernel_rfl; exact rfl; clear hs; intro w hs) | ((with_reducible apply stc hs.b0); exact rfl; exact rfl; exact rfl; exact rfl; exact rfl; kernel_rfl; exact rfl; clear hs; intro w hs) | ((with_reducible refine wrap hs ?_); clear hs; (first | generalize w.heap.size = z5); intro w hs) | ((with_reducible refine wrap hs ?_); clear hs; intro w hs) | ((with_reducible refine wrapn hs ?_); clear hs; intro w hs) | ((with_reducible refine wrapd hs ?_); clear hs; intro w hs)))
    go_ret
    exact ⟨rfl, hs.drop.drop⟩
  obtain ⟨N, rfl⟩ : ∃ N : Nat, rows = (N : Int) := ⟨rows.toNat, by omega⟩
  obtain ⟨M, rfl⟩ : ∃ M : Nat, cols = (M : Int) := ⟨cols.toNat, by omega⟩
  have n0 : 0 < N := by omega
  have n1 : 1 ≤ N := by omega
  have n5 : N ≤ 12 := by omega
  have m0 : 1 ≤ M := by omega
  have m5 : M ≤ 20 := by omega
  clear hm hr hc
  have HL : Hid ((frL N 1 (frC M At.z)).length = N) := Lib.hid (frL_len _ _ _)
  have HOK : Hid (LOK (frL N 1 (frC M At.z)) ∧ IDK (1 + (N : Int)) (frL N 1 (frC M At.z))) := Lib.hid ⟨frL_ok (by omega) (by omega), fun x hx => by
    obtain ⟨i, hi⟩ := List.getElem?_of_mem hx
    have h1 : i < N := by
      have := List.getElem?_eq_some_iff.1 hi
      have := this.1
      rw [frL_len] at this
      exact this
    rw [frL_get _ _ h1] at hi
    obtain rfl := Option.some.inj hi
    constructor <;> (dsimp only; omega)⟩
  go_enter Try.func3, Try.ntmps3
  go_upto_region 6 with (first | (go_at_call 8; refine (smade8 (rows := N) (cols := M) (most := 5) n1 (by omega) m0 (by omega) (by decide) hs).mono ?_; clear hs; rintro e w ⟨b, s, rfl, hs⟩) | ((with_reducible refine isl ?_); first | ((with_reducible apply ld hs.b0); exact rfl; exact rfl; exact rfl; exact rfl; kernel_rfl) | ((with_reducible apply st hs.b0); exact rfl; exact rfl; exact rfl; exact rfl; exact rfl; exact rfl; kernel_rfl; exact rfl; clear hs; intro w hs) | ((with_reducible apply stc hs.b0); exact rfl; exact rfl; exact rfl; exact rfl; exact rfl; kernel_rfl; exact rfl; clear hs; intro w hs) | ((with_reducible refine wrap hs ?_); clear hs; (first | generalize w.heap.size = z5); intro w hs) | ((with_reducible refine wrap hs ?_); clear hs; intro w hs) | ((with_reducible refine wrapn hs ?_); clear hs; intro w hs) | ((with_reducible refine wrapd hs ?_); clear hs; intro w hs)))
  obtain ⟨nx, HNX⟩ : ∃ nx : Int, nx = 1 + (N : Int) := ⟨_, rfl⟩
  rw [← HNX] at hs HOK
  obtain ⟨L, eL⟩ : ∃ L : List LN, frL N 1 (frC M At.z) = L := ⟨_, rfl⟩
  rw [eL] at hs HOK HL
  have HEL := Lib.hid (And.intro eL (And.intro HNX (And.intro n5 m5)))
  clear eL HNX n5 m5
  go_upto_region 7 with (first | (go_at_call 9; refine (sset9_any HL.out n0 (by have := HEL.out.2.2.1; omega) (by (apply sk_from (hs := hs); repeat constructor))).mono ?_; clear hs; rintro e w ⟨vz, f, k, B, rfl, hfk, hk, HB, hs⟩) | ((with_reducible refine isl ?_); first | ((with_reducible apply ld hs.b0); exact rfl; exact rfl; exact rfl; exact rfl; kernel_rfl) | ((with_reducible apply ld hs.b1); exact rfl; exact rfl; exact rfl; exact rfl; kernel_rfl) | ((with_reducible apply st hs.b0); exact rfl; exact rfl; exact rfl; exact rfl; exact rfl; exact rfl; kernel_rfl; exact rfl; clear hs; intro w hs) | ((with_reducible apply st hs.b1); exact rfl; exact rfl; exact rfl; exact rfl; exact rfl; exact rfl; kernel_rfl; exact rfl; clear hs; intro w hs) | ((with_reducible apply stc hs.b0); exact rfl; exact rfl; exact rfl; exact rfl; exact rfl; kernel_rfl; exact rfl; clear hs; intro w hs) | ((with_reducible apply stc hs.b1); exact rfl; exact rfl; exact rfl; exact rfl; exact rfl; kernel_rfl; exact rfl; clear hs; intro w hs) | ((with_reducible refine wrap hs ?_); clear hs; intro w hs) | ((with_reducible refine wrapn hs ?_); clear hs; intro w hs) | ((with_reducible refine wrapd hs ?_); clear hs; intro w hs)))
  have n512 : Hid (N ≤ 512 ∧ 1 ≤ M ∧ M ≤ 512 ∧ 0 < nx ∧ nx + 512 ≤ 1000000 ∧ N ≤ 1000 ∧ N ≤ 12) := Lib.hid (by have := HEL.out.2; omega)
  go_upto_region 9 with (first | (go_at_call 10; refine (smargins_sc HL.out n0 (by (apply sk_from (hs := hs); repeat constructor))).mono ?_; clear hs; rintro e w ⟨rfl, hs⟩) | (go_at_call 11; refine (ids_k (l := idv L) (Lib.hid rfl) HL.out n0 n512.out.1 (by (apply sk_from (hs := hs); repeat constructor))).mono ?_; clear hs; rintro e w ⟨aw, cw, rfl, hs⟩) | ((with_reducible refine isl ?_); first | ((with_reducible apply ld hs.b0); exact rfl; exact rfl; exact rfl; exact rfl; kernel_rfl) | ((with_reducible apply ld hs.b1); exact rfl; exact rfl; exact rfl; exact rfl; kernel_rfl) | ((with_reducible apply st hs.b0); exact rfl; exact rfl; exact rfl; exact rfl; exact rfl; exact rfl; kernel_rfl; exact rfl; clear hs; intro w hs) | ((with_reducible apply st hs.b1); exact rfl; exact rfl; exact rfl; exact rfl; exact rfl; exact rfl; kernel_rfl; exact rfl; clear hs; intro w hs) | ((with_reducible apply stc hs.b0); exact rfl; exact rfl; exact rfl; exact rfl; exact rfl; kernel_rfl; exact rfl; clear hs; intro w hs) | ((with_reducible apply stc hs.b1); exact rfl; exact rfl; exact rfl; exact rfl; exact rfl; kernel_rfl; exact rfl; clear hs; intro w hs) | ((with_reducible refine wrap hs ?_); clear hs; intro w hs) | ((with_reducible refine wrapn hs ?_); clear hs; intro w hs) | ((with_reducible refine wrapd hs ?_); clear hs; intro w hs)))
  go_upto_region 11 with (first | (go_at_call 11; refine (ids_k (l := idv L) (Lib.hid rfl) HL.out n0 n512.out.1 (by (apply sk_from (hs := hs); repeat constructor))).mono ?_; clear hs; rintro e w ⟨aw2, cw2, rfl, hs⟩) | (go_at_call 12; refine (sup12_z (most := 5) (at_ := ⟨fg, bg, fl⟩) HL.out n0 n512.out.1 HB.out hfk hk n512.out.2.1 n512.out.2.2.1 n512.out.2.2.2.1 n512.out.2.2.2.2.1 HOK.out.1 HOK.out.2 (by decide) (by (apply sk_from (hs := hs); repeat constructor))).mono ?_; clear hs; rintro e w ⟨rfl, hs⟩) | (go_at_call 13; refine (sdn13_z (at_ := ⟨fg, bg, fl⟩) HL.out n0 n512.out.1 HB.out hfk hk n512.out.2.1 n512.out.2.2.1 n512.out.2.2.2.1 n512.out.2.2.2.2.1 (by (apply sk_from (hs := hs); repeat constructor))).mono ?_; clear hs; rintro e w ⟨rfl, hs⟩) | (go_at_call 14; refine (alk2 n512.out.2.2.2.2.2.1 (by (apply sk_from (hs := hs); repeat constructor))).mono ?_; clear hs; rintro e w ⟨rfl, hs⟩; have hdt : decide (idv L = idv L) = true := decide_eq_true rfl; rw [hdt]; clear hdt) | (go_at_call 15; refine (len10_st (nx := nx) (L := []) (n := 0) rfl n512.out.2.2.2.1 (by (apply sk_from (hs := hs); repeat constructor))).mono ?_; clear hs; rintro e w ⟨rfl, hs⟩) | ((with_reducible refine isl ?_); first | ((with_reducible apply lds 3 hs.b0); exact rfl; exact rfl; exact rfl; exact row33; exact rfl; exact rfl) | ((with_reducible apply lds 3 hs.b1); exact rfl; exact rfl; exact rfl; exact row33; exact rfl; exact rfl) | ((with_reducible apply lds 3 hs.b2); exact rfl; exact rfl; exact rfl; exact row33; exact rfl; exact rfl) | ((with_reducible apply lds 3 hs.b3); exact rfl; exact rfl; exact rfl; exact row33; exact rfl; exact rfl) | ((with_reducible apply lds 3 hs.b4); exact rfl; exact rfl; exact rfl; exact row33; exact rfl; exact rfl) | ((with_reducible apply lds 3 hs.b5); exact rfl; exact rfl; exact rfl; exact row33; exact rfl; exact rfl) | ((with_reducible apply lds 3 hs.b6); exact rfl; exact rfl; exact rfl; exact row33; exact rfl; exact rfl) | ((with_reducible apply lds 3 hs.b7); exact rfl; exact rfl; exact rfl; exact row33; exact rfl; exact rfl) | ((with_reducible apply ld hs.b0); exact rfl; exact rfl; exact rfl; exact rfl; kernel_rfl) | ((with_reducible apply ld hs.b1); exact rfl; exact rfl; exact rfl; exact rfl; kernel_rfl) | ((with_reducible apply st hs.b0); exact rfl; exact rfl; exact rfl; exact rfl; exact rfl; exact rfl; kernel_rfl; exact rfl; clear hs; intro w hs) | ((with_reducible apply st hs.b1); exact rfl; exact rfl; exact rfl; exact rfl; exact rfl; exact rfl; kernel_rfl; exact rfl; clear hs; intro w hs) | ((with_reducible apply stc hs.b0); exact rfl; exact rfl; exact rfl; exact rfl; exact rfl; kernel_rfl; exact rfl; clear hs; intro w hs) | ((with_reducible apply stc hs.b1); exact rfl; exact rfl; exact rfl; exact rfl; exact rfl; kernel_rfl; exact rfl; clear hs; intro w hs) | ((with_reducible refine wrap hs ?_); clear hs; intro w hs) | ((with_reducible refine wrapn hs ?_); clear hs; intro w hs) | ((with_reducible refine wrapd hs ?_); clear hs; intro w hs)))
  by_cases hin : (f : Int) ≤ at2 ∧ at2 ≤ B
  case neg =>
    have HO : Hid (at2 < (f : Int) ∨ B < at2) := Lib.hid (by omega)
    refine region_mix (Hs := [cel z5 25 [.int .u32 fg, .int .u32 bg, .int .u16 fl]]) [([0, 1, 2, 3, 5, 6, 7, 8], [4]), ([], [9])] [10, 11] hs (fun _ h => by (refine sb_from ?_ h; repeat constructor)) (by kernel_rfl) (by kernel_rfl) (fun _ _ _ _ _ h => h) ?_
    simp only [segs, nths, nth, List.append_nil, List.nil_append, List.cons_append, List.map_cons, List.map_nil]
    refine seg_reads (fun _ h => by (refine sb_from ?_ h; repeat constructor)) ?_; intro X f hne hf hcl; (try simp only [Act.put, List.setIfInBounds_toArray, List.set_cons_succ, List.set_cons_zero]); (repeat ((first | ((with_reducible apply ldsq (cs := [.int .u32 fg, .int .u32 bg, .int .u16 fl]) 3 (fun x => (hf x).b0)); exact rfl; exact rfl; exact rfl; exact row33; exact rfl; exact rfl) | ((with_reducible apply ldsq (cs := [.int .u32 fg, .int .u32 bg, .int .u16 fl]) 3 (fun x => (hf x).b1)); exact rfl; exact rfl; exact rfl; exact row33; exact rfl; exact rfl) | ((with_reducible apply ldsq (cs := [.int .u32 fg, .int .u32 bg, .int .u16 fl]) 3 (fun x => (hf x).b2)); exact rfl; exact rfl; exact rfl; exact row33; exact rfl; exact rfl) | ((with_reducible apply ldsq (cs := [.int .u32 fg, .int .u32 bg, .int .u16 fl]) 3 (fun x => (hf x).b3)); exact rfl; exact rfl; exact rfl; exact row33; exact rfl; exact rfl) | ((with_reducible apply ldq (fun x => (hf x).b0)); exact rfl; exact rfl; exact rfl; exact rfl; kernel_rfl) | go_big_quiet_step (fail)); (try simp only [Act.put, List.setIfInBounds_toArray, List.set_cons_succ, List.set_cons_zero]))); refine wpQuiet_nil ?_; clear hcl hf hne hs f X; intro w hs
    go_wp2_with (first | (go_at_call 16; refine (sins16_no (at_ := ⟨fg, bg, fl⟩) HL.out n0 HO.out (by (apply sk_from (hs := hs); repeat constructor))).mono ?_; clear hs; rintro e w ⟨rfl, hs⟩) | (go_at_call 17; refine (sdel17_no (at_ := ⟨fg, bg, fl⟩) HL.out n0 HO.out (by (apply sk_from (hs := hs); repeat constructor))).mono ?_; clear hs; rintro e w ⟨rfl, hs⟩) | ((with_reducible refine isl ?_); first | ((with_reducible apply ld hs.b0); exact rfl; exact rfl; exact rfl; exact rfl; kernel_rfl) | ((with_reducible apply st hs.b0); exact rfl; exact rfl; exact rfl; exact rfl; exact rfl; exact rfl; kernel_rfl; exact rfl; clear hs; intro w hs) | ((with_reducible apply stc hs.b0); exact rfl; exact rfl; exact rfl; exact rfl; exact rfl; kernel_rfl; exact rfl; clear hs; intro w hs) | ((with_reducible refine wrap hs ?_); clear hs; intro w hs) | ((with_reducible refine wrapn hs ?_); clear hs; intro w hs) | ((with_reducible refine wrapd hs ?_); clear hs; intro w hs)))
    (first | refine seg_on (Hs' := [cel z5 25 [.int .u32 fg, .int .u32 bg, .int .u16 fl]]) hs (fun _ h => by (refine sb_from ?_ h; repeat constructor)) ?_ ?_ | refine seg_on (Hs' := [cel z5 25 [.int .u32 fg, .int .u32 bg, .int .u16 fl]]) hs.drew (fun _ h => by (refine sb_from ?_ h; repeat constructor)) ?_ ?_ | refine seg_on (Hs' := [cel z5 25 [.int .u32 fg, .int .u32 bg, .int .u16 fl]]) (hs.drewN _) (fun _ h => by (refine sb_from ?_ h; repeat constructor)) ?_ ?_)
    · exact fun _ h => by (refine sb_from ?_ h; repeat constructor)
    clear hs; intro hs
    refine seg_reads (fun _ h => by (refine sb_from ?_ h; repeat constructor)) ?_; intro X f hne hf hcl; (try simp only [Act.put, List.setIfInBounds_toArray, List.set_cons_succ, List.set_cons_zero]); (repeat ((first | ((with_reducible apply ldsq (cs := [.int .u32 fg, .int .u32 bg, .int .u16 fl]) 3 (fun x => (hf x).b0)); exact rfl; exact rfl; exact rfl; exact row33; exact rfl; exact rfl) | ((with_reducible apply ldsq (cs := [.int .u32 fg, .int .u32 bg, .int .u16 fl]) 3 (fun x => (hf x).b1)); exact rfl; exact rfl; exact rfl; exact row33; exact rfl; exact rfl) | ((with_reducible apply ldsq (cs := [.int .u32 fg, .int .u32 bg, .int .u16 fl]) 3 (fun x => (hf x).b2)); exact rfl; exact rfl; exact rfl; exact row33; exact rfl; exact rfl) | ((with_reducible apply ldsq (cs := [.int .u32 fg, .int .u32 bg, .int .u16 fl]) 3 (fun x => (hf x).b3)); exact rfl; exact rfl; exact rfl; exact row33; exact rfl; exact rfl) | ((with_reducible apply ldq (fun x => (hf x).b0)); exact rfl; exact rfl; exact rfl; exact rfl; kernel_rfl) | go_big_quiet_step (fail)); (try simp only [Act.put, List.setIfInBounds_toArray, List.set_cons_succ, List.set_cons_zero]))); refine wpQuiet_nil ?_; clear hcl hf hne hs f X; intro w hs
    go_wp2_with (first | (go_at_call 16; refine (sins16_no (at_ := ⟨fg, bg, fl⟩) HL.out n0 HO.out (by (apply sk_from (hs := hs); repeat constructor))).mono ?_; clear hs; rintro e w ⟨rfl, hs⟩) | (go_at_call 17; refine (sdel17_no (at_ := ⟨fg, bg, fl⟩) HL.out n0 HO.out (by (apply sk_from (hs := hs); repeat constructor))).mono ?_; clear hs; rintro e w ⟨rfl, hs⟩) | ((with_reducible refine isl ?_); first | ((with_reducible apply ld hs.b0); exact rfl; exact rfl; exact rfl; exact rfl; kernel_rfl) | ((with_reducible apply st hs.b0); exact rfl; exact rfl; exact rfl; exact rfl; exact rfl; exact rfl; kernel_rfl; exact rfl; clear hs; intro w hs) | ((with_reducible apply stc hs.b0); exact rfl; exact rfl; exact rfl; exact rfl; exact rfl; kernel_rfl; exact rfl; clear hs; intro w hs) | ((with_reducible refine wrap hs ?_); clear hs; intro w hs) | ((with_reducible refine wrapn hs ?_); clear hs; intro w hs) | ((with_reducible refine wrapd hs ?_); clear hs; intro w hs)))
    (first | refine seg_on (Hs' := [cel z5 25 [.int .u32 fg, .int .u32 bg, .int .u16 fl]]) hs (fun _ h => by (refine sb_from ?_ h; repeat constructor)) ?_ ?_ | refine seg_on (Hs' := [cel z5 25 [.int .u32 fg, .int .u32 bg, .int .u16 fl]]) hs.drew (fun _ h => by (refine sb_from ?_ h; repeat constructor)) ?_ ?_ | refine seg_on (Hs' := [cel z5 25 [.int .u32 fg, .int .u32 bg, .int .u16 fl]]) (hs.drewN _) (fun _ h => by (refine sb_from ?_ h; repeat constructor)) ?_ ?_)
    · exact fun _ h => by (refine sb_from ?_ h; repeat constructor)
    clear hs; intro hs
    refine seg_last (fun _ h => by (refine sb_from ?_ h; repeat constructor)) ?_; intro X f hne hf hcl; (try simp only [Act.put, List.setIfInBounds_toArray, List.set_cons_succ, List.set_cons_zero]); (repeat ((first | ((with_reducible apply ldsq (cs := [.int .u32 fg, .int .u32 bg, .int .u16 fl]) 3 (fun x => (hf x).b0)); exact rfl; exact rfl; exact rfl; exact row33; exact rfl; exact rfl) | ((with_reducible apply ldsq (cs := [.int .u32 fg, .int .u32 bg, .int .u16 fl]) 3 (fun x => (hf x).b1)); exact rfl; exact rfl; exact rfl; exact row33; exact rfl; exact rfl) | ((with_reducible apply ldsq (cs := [.int .u32 fg, .int .u32 bg, .int .u16 fl]) 3 (fun x => (hf x).b2)); exact rfl; exact rfl; exact rfl; exact row33; exact rfl; exact rfl) | ((with_reducible apply ldsq (cs := [.int .u32 fg, .int .u32 bg, .int .u16 fl]) 3 (fun x => (hf x).b3)); exact rfl; exact rfl; exact rfl; exact row33; exact rfl; exact rfl) | ((with_reducible apply ldq (fun x => (hf x).b0)); exact rfl; exact rfl; exact rfl; exact rfl; kernel_rfl) | go_big_quiet_step (fail)); (try simp only [Act.put, List.setIfInBounds_toArray, List.set_cons_succ, List.set_cons_zero]))); refine wpQuiet_nil ?_; clear hcl hf hne hs f X; intro w hs
    have hs1 : sat W (own 3 1 (.slice aw N cw) N ((idv L).map (Value.int .i64)) :: scP b s ⟨true, M, (f : Int), B, L⟩ :: H) w := by refine sb_from ?_ hs; repeat constructor
    clear hs
    have hs := hs1
    clear hs1
    by_cases ha : at2 < (f : Int)
    · have g3 : decide (at2 < (f : Int)) = true := decide_eq_true ha
      clear hin
      go_wp2_with (first | (go_at_call 11; refine (ids_k (l := idv L) (Lib.hid rfl) HL.out n0 n512.out.1 (by (apply sk_from (hs := hs); repeat constructor))).mono ?_; clear hs; rintro e w ⟨aw2, cw2, rfl, hs⟩) | (go_at_call 14; refine (alk2 n512.out.2.2.2.2.2.1 (by (apply sk_from (hs := hs); repeat constructor))).mono ?_; clear hs; rintro e w ⟨rfl, hs⟩; have hdt : decide (idv L = idv L) = true := decide_eq_true rfl; rw [hdt]; clear hdt) | (go_at_call 7; refine (known7 (by (apply sk_from (hs := hs); repeat constructor))).mono ?_; clear hs; rintro e w ⟨rfl, hs⟩) | ((with_reducible refine isl ?_); first | ((with_reducible apply ld hs.b0); exact rfl; exact rfl; exact rfl; exact rfl; kernel_rfl) | ((with_reducible apply ld hs.b1); exact rfl; exact rfl; exact rfl; exact rfl; kernel_rfl) | ((with_reducible apply st hs.b0); exact rfl; exact rfl; exact rfl; exact rfl; exact rfl; exact rfl; kernel_rfl; exact rfl; clear hs; intro w hs) | ((with_reducible apply st hs.b1); exact rfl; exact rfl; exact rfl; exact rfl; exact rfl; exact rfl; kernel_rfl; exact rfl; clear hs; intro w hs) | ((with_reducible apply stc hs.b0); exact rfl; exact rfl; exact rfl; exact rfl; exact rfl; kernel_rfl; exact rfl; clear hs; intro w hs) | ((with_reducible apply stc hs.b1); exact rfl; exact rfl; exact rfl; exact rfl; exact rfl; kernel_rfl; exact rfl; clear hs; intro w hs) | ((with_reducible refine wrap hs ?_); clear hs; intro w hs) | ((with_reducible refine wrapn hs ?_); clear hs; intro w hs) | ((with_reducible refine wrapd hs ?_); clear hs; intro w hs)))
      go_ret
      exact ⟨rfl, hs.drop.drop.drop⟩
    · have g3 : decide (at2 < (f : Int)) = false := decide_eq_false ha
      have g4 : decide (B < at2) = true := decide_eq_true (by omega)
      clear hin
      go_wp2_with (first | (go_at_call 11; refine (ids_k (l := idv L) (Lib.hid rfl) HL.out n0 n512.out.1 (by (apply sk_from (hs := hs); repeat constructor))).mono ?_; clear hs; rintro e w ⟨aw2, cw2, rfl, hs⟩) | (go_at_call 14; refine (alk2 n512.out.2.2.2.2.2.1 (by (apply sk_from (hs := hs); repeat constructor))).mono ?_; clear hs; rintro e w ⟨rfl, hs⟩; have hdt : decide (idv L = idv L) = true := decide_eq_true rfl; rw [hdt]; clear hdt) | (go_at_call 7; refine (known7 (by (apply sk_from (hs := hs); repeat constructor))).mono ?_; clear hs; rintro e w ⟨rfl, hs⟩) | ((with_reducible refine isl ?_); first | ((with_reducible apply ld hs.b0); exact rfl; exact rfl; exact rfl; exact rfl; kernel_rfl) | ((with_reducible apply ld hs.b1); exact rfl; exact rfl; exact rfl; exact rfl; kernel_rfl) | ((with_reducible apply st hs.b0); exact rfl; exact rfl; exact rfl; exact rfl; exact rfl; exact rfl; kernel_rfl; exact rfl; clear hs; intro w hs) | ((with_reducible apply st hs.b1); exact rfl; exact rfl; exact rfl; exact rfl; exact rfl; exact rfl; kernel_rfl; exact rfl; clear hs; intro w hs) | ((with_reducible apply stc hs.b0); exact rfl; exact rfl; exact rfl; exact rfl; exact rfl; kernel_rfl; exact rfl; clear hs; intro w hs) | ((with_reducible apply stc hs.b1); exact rfl; exact rfl; exact rfl; exact rfl; exact rfl; kernel_rfl; exact rfl; clear hs; intro w hs) | ((with_reducible refine wrap hs ?_); clear hs; intro w hs) | ((with_reducible refine wrapn hs ?_); clear hs; intro w hs) | ((with_reducible refine wrapd hs ?_); clear hs; intro w hs)))
      go_ret
      exact ⟨rfl, hs.drop.drop.drop⟩
  obtain ⟨F, K, rfl, hFK, hK, hfF⟩ : ∃ F K : Nat, at2 = (F : Int) ∧ F + K = f + k ∧ 0 < K ∧ f ≤ F := ⟨at2.toNat, f + k - at2.toNat, by have := HB.out; omega⟩
  have HQ : Hid ((f : Int) ≤ (F : Int) ∧ B = ((F + K : Nat) : Int) - 1 ∧ F + K ≤ N) := Lib.hid (by have := HB.out; omega)
  obtain ⟨m, hm⟩ : ∃ m, hld n K = m := ⟨_, rfl⟩
  have hmK : m ≤ K := by rw [← hm]; exact hld_le _ _
  have HM := Lib.hid hm
  have HD : Hid ((downL L F K m (frL m nx (frC M ⟨fg, bg, fl⟩))).length = N) := Lib.hid (by rw [downL_len _ hmK (by rw [HL.out]; exact HQ.out.2.2) (frL_len _ _ _), HL.out])
  have HN2 : Hid (0 < nx + (m : Int) ∧ nx + (m : Int) + 512 ≤ 1000000) := Lib.hid (by have := HEL.out.2; omega)
  have g3 : decide ((F : Int) < (f : Int)) = false := decide_eq_false (by omega)
  have g4 : decide (B < (F : Int)) = false := decide_eq_false (by omega)
  clear hm hin
  refine region_mix (Hs := [cel z5 25 [.int .u32 fg, .int .u32 bg, .int .u16 fl]]) [([0, 1, 2, 3, 5, 6, 7, 8], [4]), ([], [9])] [10, 11] hs (fun _ h => by (refine sb_from ?_ h; repeat constructor)) (by kernel_rfl) (by kernel_rfl) (fun _ _ _ _ _ h => h) ?_
  simp only [segs, nths, nth, List.append_nil, List.nil_append, List.cons_append, List.map_cons, List.map_nil]
  refine seg_reads (fun _ h => by (refine sb_from ?_ h; repeat constructor)) ?_; intro X f hne hf hcl; (try simp only [Act.put, List.setIfInBounds_toArray, List.set_cons_succ, List.set_cons_zero]); (repeat ((first | ((with_reducible apply ldsq (cs := [.int .u32 fg, .int .u32 bg, .int .u16 fl]) 3 (fun x => (hf x).b0)); exact rfl; exact rfl; exact rfl; exact row33; exact rfl; exact rfl) | ((with_reducible apply ldsq (cs := [.int .u32 fg, .int .u32 bg, .int .u16 fl]) 3 (fun x => (hf x).b1)); exact rfl; exact rfl; exact rfl; exact row33; exact rfl; exact rfl) | ((with_reducible apply ldsq (cs := [.int .u32 fg, .int .u32 bg, .int .u16 fl]) 3 (fun x => (hf x).b2)); exact rfl; exact rfl; exact rfl; exact row33; exact rfl; exact rfl) | ((with_reducible apply ldsq (cs := [.int .u32 fg, .int .u32 bg, .int .u16 fl]) 3 (fun x => (hf x).b3)); exact rfl; exact rfl; exact rfl; exact row33; exact rfl; exact rfl) | ((with_reducible apply ldq (fun x => (hf x).b0)); exact rfl; exact rfl; exact rfl; exact rfl; kernel_rfl) | go_big_quiet_step (fail)); (try simp only [Act.put, List.setIfInBounds_toArray, List.set_cons_succ, List.set_cons_zero]))); refine wpQuiet_nil ?_; clear hcl hf hne hs f X; intro w hs
  go_wp2_with (first | (go_at_call 16; refine (sins16 (at_ := ⟨fg, bg, fl⟩) HL.out n0 n512.out.1 HQ.out.1 HQ.out.2.1 HQ.out.2.2 hK n512.out.2.1 n512.out.2.2.1 n512.out.2.2.2.1 n512.out.2.2.2.2.1 (by (apply sk_from (hs := hs); repeat constructor))).mono ?_; clear hs; rintro e w ⟨rfl, hs⟩; rw [HM.out] at hs) | (go_at_call 17; refine (sdel17 (at_ := ⟨fg, bg, fl⟩) HD.out n0 n512.out.1 HQ.out.1 HQ.out.2.1 HQ.out.2.2 hK n512.out.2.1 n512.out.2.2.1 HN2.out.1 HN2.out.2 (by (apply sk_from (hs := hs); repeat constructor))).mono ?_; clear hs; rintro e w ⟨rfl, hs⟩; rw [HM.out] at hs) | ((with_reducible refine isl ?_); first | ((with_reducible apply ld hs.b0); exact rfl; exact rfl; exact rfl; exact rfl; kernel_rfl) | ((with_reducible apply st hs.b0); exact rfl; exact rfl; exact rfl; exact rfl; exact rfl; exact rfl; kernel_rfl; exact rfl; clear hs; intro w hs) | ((with_reducible apply stc hs.b0); exact rfl; exact rfl; exact rfl; exact rfl; exact rfl; kernel_rfl; exact rfl; clear hs; intro w hs) | ((with_reducible refine wrap hs ?_); clear hs; intro w hs) | ((with_reducible refine wrapn hs ?_); clear hs; intro w hs) | ((with_reducible refine wrapd hs ?_); clear hs; intro w hs)))
  (first | refine seg_on (Hs' := [cel z5 25 [.int .u32 fg, .int .u32 bg, .int .u16 fl]]) hs (fun _ h => by (refine sb_from ?_ h; repeat constructor)) ?_ ?_ | refine seg_on (Hs' := [cel z5 25 [.int .u32 fg, .int .u32 bg, .int .u16 fl]]) hs.drew (fun _ h => by (refine sb_from ?_ h; repeat constructor)) ?_ ?_ | refine seg_on (Hs' := [cel z5 25 [.int .u32 fg, .int .u32 bg, .int .u16 fl]]) (hs.drewN _) (fun _ h => by (refine sb_from ?_ h; repeat constructor)) ?_ ?_)
  · exact fun _ h => by (refine sb_from ?_ h; repeat constructor)
  clear hs; intro hs
  refine seg_reads (fun _ h => by (refine sb_from ?_ h; repeat constructor)) ?_; intro X f hne hf hcl; (try simp only [Act.put, List.setIfInBounds_toArray, List.set_cons_succ, List.set_cons_zero]); (repeat ((first | ((with_reducible apply ldsq (cs := [.int .u32 fg, .int .u32 bg, .int .u16 fl]) 3 (fun x => (hf x).b0)); exact rfl; exact rfl; exact rfl; exact row33; exact rfl; exact rfl) | ((with_reducible apply ldsq (cs := [.int .u32 fg, .int .u32 bg, .int .u16 fl]) 3 (fun x => (hf x).b1)); exact rfl; exact rfl; exact rfl; exact row33; exact rfl; exact rfl) | ((with_reducible apply ldsq (cs := [.int .u32 fg, .int .u32 bg, .int .u16 fl]) 3 (fun x => (hf x).b2)); exact rfl; exact rfl; exact rfl; exact row33; exact rfl; exact rfl) | ((with_reducible apply ldsq (cs := [.int .u32 fg, .int .u32 bg, .int .u16 fl]) 3 (fun x => (hf x).b3)); exact rfl; exact rfl; exact rfl; exact row33; exact rfl; exact rfl) | ((with_reducible apply ldq (fun x => (hf x).b0)); exact rfl; exact rfl; exact rfl; exact rfl; kernel_rfl) | go_big_quiet_step (fail)); (try simp only [Act.put, List.setIfInBounds_toArray, List.set_cons_succ, List.set_cons_zero]))); refine wpQuiet_nil ?_; clear hcl hf hne hs f X; intro w hs
  go_wp2_with (first | (go_at_call 16; refine (sins16 (at_ := ⟨fg, bg, fl⟩) HL.out n0 n512.out.1 HQ.out.1 HQ.out.2.1 HQ.out.2.2 hK n512.out.2.1 n512.out.2.2.1 n512.out.2.2.2.1 n512.out.2.2.2.2.1 (by (apply sk_from (hs := hs); repeat constructor))).mono ?_; clear hs; rintro e w ⟨rfl, hs⟩; rw [HM.out] at hs) | (go_at_call 17; refine (sdel17 (at_ := ⟨fg, bg, fl⟩) HD.out n0 n512.out.1 HQ.out.1 HQ.out.2.1 HQ.out.2.2 hK n512.out.2.1 n512.out.2.2.1 HN2.out.1 HN2.out.2 (by (apply sk_from (hs := hs); repeat constructor))).mono ?_; clear hs; rintro e w ⟨rfl, hs⟩; rw [HM.out] at hs) | ((with_reducible refine isl ?_); first | ((with_reducible apply ld hs.b0); exact rfl; exact rfl; exact rfl; exact rfl; kernel_rfl) | ((with_reducible apply st hs.b0); exact rfl; exact rfl; exact rfl; exact rfl; exact rfl; exact rfl; kernel_rfl; exact rfl; clear hs; intro w hs) | ((with_reducible apply stc hs.b0); exact rfl; exact rfl; exact rfl; exact rfl; exact rfl; kernel_rfl; exact rfl; clear hs; intro w hs) | ((with_reducible refine wrap hs ?_); clear hs; intro w hs) | ((with_reducible refine wrapn hs ?_); clear hs; intro w hs) | ((with_reducible refine wrapd hs ?_); clear hs; intro w hs)))
  (first | refine seg_on (Hs' := [cel z5 25 [.int .u32 fg, .int .u32 bg, .int .u16 fl]]) hs (fun _ h => by (refine sb_from ?_ h; repeat constructor)) ?_ ?_ | refine seg_on (Hs' := [cel z5 25 [.int .u32 fg, .int .u32 bg, .int .u16 fl]]) hs.drew (fun _ h => by (refine sb_from ?_ h; repeat constructor)) ?_ ?_ | refine seg_on (Hs' := [cel z5 25 [.int .u32 fg, .int .u32 bg, .int .u16 fl]]) (hs.drewN _) (fun _ h => by (refine sb_from ?_ h; repeat constructor)) ?_ ?_)
  · exact fun _ h => by (refine sb_from ?_ h; repeat constructor)
  clear hs; intro hs
  refine seg_last (fun _ h => by (refine sb_from ?_ h; repeat constructor)) ?_; intro X f hne hf hcl; (try simp only [Act.put, List.setIfInBounds_toArray, List.set_cons_succ, List.set_cons_zero]); (repeat ((first | ((with_reducible apply ldsq (cs := [.int .u32 fg, .int .u32 bg, .int .u16 fl]) 3 (fun x => (hf x).b0)); exact rfl; exact rfl; exact rfl; exact row33; exact rfl; exact rfl) | ((with_reducible apply ldsq (cs := [.int .u32 fg, .int .u32 bg, .int .u16 fl]) 3 (fun x => (hf x).b1)); exact rfl; exact rfl; exact rfl; exact row33; exact rfl; exact rfl) | ((with_reducible apply ldsq (cs := [.int .u32 fg, .int .u32 bg, .int .u16 fl]) 3 (fun x => (hf x).b2)); exact rfl; exact rfl; exact rfl; exact row33; exact rfl; exact rfl) | ((with_reducible apply ldsq (cs := [.int .u32 fg, .int .u32 bg, .int .u16 fl]) 3 (fun x => (hf x).b3)); exact rfl; exact rfl; exact rfl; exact row33; exact rfl; exact rfl) | ((with_reducible apply ldq (fun x => (hf x).b0)); exact rfl; exact rfl; exact rfl; exact rfl; kernel_rfl) | go_big_quiet_step (fail)); (try simp only [Act.put, List.setIfInBounds_toArray, List.set_cons_succ, List.set_cons_zero]))); refine wpQuiet_nil ?_; clear hcl hf hne hs f X; intro w hs
  have hs1 : sat W (own 3 1 (.slice aw N cw) N ((idv L).map (Value.int .i64)) :: scP b s ⟨true, M, (f : Int), B, backL L F K m nx (frC M ⟨fg, bg, fl⟩)⟩ :: stP s 5 (nx + m + m) [] :: H) w := by unfold backL; refine sb_from ?_ hs; repeat constructor
  clear hs
  have hs := hs1
  clear hs1
  have b1 : 0 ≤ B := by have := HQ.out.2.1; omega
  have b2 : B ≤ 12 := by have := HQ.out.2; have := n512.out; omega
  have b3 : (F : Int) ≤ 12 := by have := HQ.out.2; have := n512.out; omega
  have b4 : (m : Int) ≤ 13 := by have := HQ.out.2; have := n512.out; omega
  have HX : Hid ((if B - (F : Int) + 1 < if n < 0 then 0 else n then B - (F : Int) + 1 else if n < 0 then 0 else n) = (m : Int)) := Lib.hid (by
    have e1 : B - (F : Int) + 1 = (K : Int) := by have := HQ.out.2.1; omega
    rw [e1, hld_if, HM.out])
  have HG : Hid (∀ i, i < N → (idv (backL L F K m nx (frC M ⟨fg, bg, fl⟩))).getD i 0 = if F + K - m ≤ i ∧ i < F + K then nx + m + ((i - (F + K - m) : Nat) : Int) else 1 + (i : Int)) := Lib.hid fun i hi => by
    rw [← HEL.out.1]
    exact back_get hmK HQ.out.2.2 hi
  have HI : Hid (∀ i, i < N → (idv L).getD i 0 = 1 + (i : Int)) := Lib.hid fun i hi => by
    rw [← HEL.out.1]
    exact id_get hi
  have HLB : Hid ((backL L F K m nx (frC M ⟨fg, bg, fl⟩)).length = N) := Lib.hid (by rw [backL_len _ hmK (by rw [HL.out]; exact HQ.out.2.2), HL.out])
  generalize backL L F K m nx (frC M ⟨fg, bg, fl⟩) = LB at hs HG HLB
  go_upto_region 15 with fail
  rw [HX.out]
  generalize (if n < 0 then (0 : Int) else n) = q9
  go_wp2_with (first | (go_at_call 11; refine (ids_k (l := idv LB) (Lib.hid rfl) HLB.out n0 n512.out.1 (by (apply sk_from (hs := hs); repeat constructor))).mono ?_; clear hs; rintro e w ⟨an, cn, rfl, hs⟩) | ((with_reducible refine isl ?_); first | ((with_reducible apply ld hs.b0); exact rfl; exact rfl; exact rfl; exact rfl; kernel_rfl) | ((with_reducible apply ld hs.b1); exact rfl; exact rfl; exact rfl; exact rfl; kernel_rfl) | ((with_reducible apply st hs.b0); exact rfl; exact rfl; exact rfl; exact rfl; exact rfl; exact rfl; kernel_rfl; exact rfl; clear hs; intro w hs) | ((with_reducible apply st hs.b1); exact rfl; exact rfl; exact rfl; exact rfl; exact rfl; exact rfl; kernel_rfl; exact rfl; clear hs; intro w hs) | ((with_reducible apply stc hs.b0); exact rfl; exact rfl; exact rfl; exact rfl; exact rfl; kernel_rfl; exact rfl; clear hs; intro w hs) | ((with_reducible apply stc hs.b1); exact rfl; exact rfl; exact rfl; exact rfl; exact rfl; kernel_rfl; exact rfl; clear hs; intro w hs) | ((with_reducible refine wrap hs ?_); clear hs; intro w hs) | ((with_reducible refine wrapn hs ?_); clear hs; intro w hs) | ((with_reducible refine wrapd hs ?_); clear hs; intro w hs)))
  have R1 : SK .i64 W (own 3 1 (.slice an N cn) N ((idv LB).map (Value.int .i64)) :: scP b s ⟨true, M, (f : Int), B, LB⟩ :: own 3 1 (.slice aw N cw) N ((idv L).map (Value.int .i64)) :: stP s 5 (nx + m + m) [] :: H) an N cn (idv LB) := SK.of_own (by refine sb_from ?_ hs; repeat constructor)
  have R2 : SK .i64 W (own 3 1 (.slice an N cn) N ((idv LB).map (Value.int .i64)) :: scP b s ⟨true, M, (f : Int), B, LB⟩ :: own 3 1 (.slice aw N cw) N ((idv L).map (Value.int .i64)) :: stP s 5 (nx + m + m) [] :: H) aw N cw (idv L) := (SK.of_own (H := own 3 1 (.slice an N cn) N ((idv LB).map (Value.int .i64)) :: scP b s ⟨true, M, (f : Int), B, LB⟩ :: stP s 5 (nx + m + m) [] :: H) (by refine sb_from ?_ hs; repeat constructor)).mono fun w' h => by refine sb_from ?_ h; repeat constructor
  have HR1 := Lib.hid R1
  have HR2 := Lib.hid R2
  clear R1 R2
  go_loopw [119] (fun i wx => ∃ i0 : Nat, i0 ≤ N ∧ i = .int .i64 (i0 : Int) ∧ sat W (own 3 1 (.slice an N cn) N ((idv LB).map (Value.int .i64)) :: scP b s ⟨true, M, (f : Int), B, LB⟩ :: own 3 1 (.slice aw N cw) N ((idv L).map (Value.int .i64)) :: stP s 5 (nx + m + m) [] :: H) wx) (fun i _ => ((N : Int) - intOf i).toNat)
  case atStart => exact ⟨0, Nat.zero_le _, rfl, by refine sb_from ?_ hs; repeat constructor⟩
  case round =>
    clear hs
    obtain ⟨i0, hi, rfl, hs⟩ := hrel
    by_cases hin : i0 < N
    · have hin2 : (i0 : Int) < (N : Int) := by omega
      have hi12 : (i0 : Int) ≤ 12 := by have := n512.out; omega
      obtain ⟨b1, o1, rfl, q1⟩ := HR1.out.get hs hin
      obtain ⟨b2, o2, rfl, q2⟩ := HR2.out.get hs hin
      rw [HG.out i0 hin] at q1
      rw [HI.out i0 hin] at q2
      by_cases hl : F + K - m ≤ i0 ∧ i0 < F + K
      · rw [if_pos hl] at q1
        obtain ⟨x1, hx1⟩ : ∃ x, nx + m + ((i0 - (F + K - m) : Nat) : Int) = x := ⟨_, rfl⟩
        obtain ⟨x2, hx2⟩ : ∃ x, 1 + (i0 : Int) = x := ⟨_, rfl⟩
        have hne : ¬ x1 = x2 := by have := HEL.out.2.1; omega
        have hx' : (x1 == x2) = false := beq_eq_false_iff_ne.2 hne
        rw [hx1] at q1
        rw [hx2] at q2
        have HQ1 := Lib.hid q1
        have HQ2 := Lib.hid q2
        have k1 : decide (B - (m : Int) < (i0 : Int)) = true := decide_eq_true (by have := HQ.out; omega)
        have k2 : decide ((i0 : Int) ≤ B) = true := decide_eq_true (by have := HQ.out; omega)
        clear q1 q2 hx1 hx2 hl
        go_upto_region 20 with fail
        ((try simp only [Act.put, List.setIfInBounds_toArray, List.set_cons_succ, List.set_cons_zero]); refine region_sat hs (by kernel_rfl) (by kernel_rfl) ?_; intro X f hne hf hcl; (repeat ((first | (apply ldcq; exact rfl; exact rfl; exact rfl; exact fun y => HQ1.out _ (hf y); exact one3) | (apply ldcq; exact rfl; exact rfl; exact rfl; exact fun y => HQ2.out _ (hf y); exact one3) | go_big_quiet_step (fail)); (try simp only [Act.put, List.setIfInBounds_toArray, List.set_cons_succ, List.set_cons_zero]))); refine wpQuiet_nil ?_; clear hcl hf hne hs f X; intro w hs)
        go_wp2_with fail
        go_roundw
        case rel => exact ⟨i0 + 1, by omega, by go_num, hs⟩
        case measure => simp [intOf]; omega
      · rw [if_neg hl] at q1
        obtain ⟨x1, hx1⟩ : ∃ x, 1 + (i0 : Int) = x := ⟨_, rfl⟩
        rw [hx1] at q1 q2
        have HQ1 := Lib.hid q1
        have HQ2 := Lib.hid q2
        clear q1 q2 hx1
        by_cases hc : i0 < F + K
        · have k1 : decide (B - (m : Int) < (i0 : Int)) = false := decide_eq_false (by have := HQ.out; omega)
          clear hl hc
          go_upto_region 20 with fail
          ((try simp only [Act.put, List.setIfInBounds_toArray, List.set_cons_succ, List.set_cons_zero]); refine region_sat hs (by kernel_rfl) (by kernel_rfl) ?_; intro X f hne hf hcl; (repeat ((first | (apply ldcq; exact rfl; exact rfl; exact rfl; exact fun y => HQ1.out _ (hf y); exact one3) | (apply ldcq; exact rfl; exact rfl; exact rfl; exact fun y => HQ2.out _ (hf y); exact one3) | go_big_quiet_step (fail)); (try simp only [Act.put, List.setIfInBounds_toArray, List.set_cons_succ, List.set_cons_zero]))); refine wpQuiet_nil ?_; clear hcl hf hne hs f X; intro w hs)
          go_wp2_with fail
          go_roundw
          case rel => exact ⟨i0 + 1, by omega, by go_num, hs⟩
          case measure => simp [intOf]; omega
        · have k1 : decide (B - (m : Int) < (i0 : Int)) = true := decide_eq_true (by have := HQ.out; omega)
          have k2 : decide ((i0 : Int) ≤ B) = false := decide_eq_false (by have := HQ.out; omega)
          clear hl hc
          go_upto_region 20 with fail
          ((try simp only [Act.put, List.setIfInBounds_toArray, List.set_cons_succ, List.set_cons_zero]); refine region_sat hs (by kernel_rfl) (by kernel_rfl) ?_; intro X f hne hf hcl; (repeat ((first | (apply ldcq; exact rfl; exact rfl; exact rfl; exact fun y => HQ1.out _ (hf y); exact one3) | (apply ldcq; exact rfl; exact rfl; exact rfl; exact fun y => HQ2.out _ (hf y); exact one3) | go_big_quiet_step (fail)); (try simp only [Act.put, List.setIfInBounds_toArray, List.set_cons_succ, List.set_cons_zero]))); refine wpQuiet_nil ?_; clear hcl hf hne hs f X; intro w hs)
          go_wp2_with fail
          go_roundw
          case rel => exact ⟨i0 + 1, by omega, by go_num, hs⟩
          case measure => simp [intOf]; omega
    · have hge : ¬ (i0 : Int) < (N : Int) := by omega
      clear hin
      go_wp2_with (first | (go_at_call 15; refine (len10_st (nx := nx + m + m) (L := []) (n := 0) rfl (by have := n512.out; omega) (by (apply sk_from (hs := hs); repeat constructor))).mono ?_; clear hs; rintro e w ⟨rfl, hs⟩) | (go_at_call 7; refine (known7 (by (apply sk_from (hs := hs); repeat constructor))).mono ?_; clear hs; rintro e w ⟨rfl, hs⟩) | ((with_reducible refine isl ?_); first | ((with_reducible apply ld hs.b0); exact rfl; exact rfl; exact rfl; exact rfl; kernel_rfl) | ((with_reducible apply ld hs.b1); exact rfl; exact rfl; exact rfl; exact rfl; kernel_rfl) | ((with_reducible apply st hs.b0); exact rfl; exact rfl; exact rfl; exact rfl; exact rfl; exact rfl; kernel_rfl; exact rfl; clear hs; intro w hs) | ((with_reducible apply st hs.b1); exact rfl; exact rfl; exact rfl; exact rfl; exact rfl; exact rfl; kernel_rfl; exact rfl; clear hs; intro w hs) | ((with_reducible apply stc hs.b0); exact rfl; exact rfl; exact rfl; exact rfl; exact rfl; kernel_rfl; exact rfl; clear hs; intro w hs) | ((with_reducible apply stc hs.b1); exact rfl; exact rfl; exact rfl; exact rfl; exact rfl; kernel_rfl; exact rfl; clear hs; intro w hs) | ((with_reducible refine wrap hs ?_); clear hs; intro w hs) | ((with_reducible refine wrapn hs ?_); clear hs; intro w hs) | ((with_reducible refine wrapd hs ?_); clear hs; intro w hs)))
      go_ret
      exact ⟨rfl, hs.drop.drop.drop.drop⟩
end Go.Proofs.Ytdcagaaanbgcoaa
