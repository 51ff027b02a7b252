/- Law 6: the document's Join, From; the same cells. -/
import Derived.Test.YteoeeiinngpogaaV15
namespace Go.Proofs.Yteoeeiinngpogaa
open Go.RowKit Go.Mem Go.Cells
variable {W w : World} {H : List HProp}
attribute [local irreducible] World.setCell World.setCells World.alloc World.drew World.drewN Calls sat cel own blk old wpQuiet wpList cmb cmb1 rwP cls rws wi wh fst_ World.rangeAt
theorem join34_no {b n : Nat} {l : List C} {k x : Int} (hn : l.length = n) (h : ¬ mayC x ∨ k < 0 ∨ (n : Int) ≤ k) (hs : sat W (rwP 68 b l :: H) w) : Calls Try.prog 34 #[.pointer (some ⟨b, 0, none⟩), .int .i64 k, .int .i32 x] w fun e w' => e = .returned (.int .i64 2) ∧ sat W (rwP 68 b l :: H) w' := by
  obtain ⟨ps, a, p, hps, hs⟩ := rw_open hn hs
  have HP : Hid (ps.length = n ∧ ps.map (·.c) = l) := Lib.hid ⟨by rw [← hn, ← hps, List.length_map], hps⟩
  clear hn hps
  by_cases hm : mayC x
  · have HMY : Hid (decide (mayC x) = true) := Lib.hid (decide_eq_true hm)
    by_cases h1 : k < 0
    · clear h hm
      go_enter Try.func34, Try.ntmps34
      go_wp2_with (first | (go_at_call 12; refine (rune12 hs).mono ?_; clear hs; rintro e w ⟨rfl, hs⟩; rw [HMY.out]) | ((with_reducible refine isl ?_); first | ((with_reducible apply ld hs.b0); exact rfl; exact rfl; exact rfl; exact rfl; kernel_rfl) | ((with_reducible apply ld hs.b1); exact rfl; exact rfl; exact rfl; exact rfl; kernel_rfl) | ((with_reducible apply st hs.b0); exact rfl; exact rfl; exact rfl; exact rfl; exact rfl; exact rfl; kernel_rfl; exact rfl; clear hs; intro w hs) | ((with_reducible apply st hs.b1); exact rfl; exact rfl; exact rfl; exact rfl; exact rfl; exact rfl; kernel_rfl; exact rfl; clear hs; intro w hs) | ((with_reducible apply stc hs.b0); exact rfl; exact rfl; exact rfl; exact rfl; exact rfl; kernel_rfl; exact rfl; clear hs; intro w hs) | ((with_reducible apply stc hs.b1); exact rfl; exact rfl; exact rfl; exact rfl; exact rfl; kernel_rfl; exact rfl; clear hs; intro w hs) | ((with_reducible refine wrap hs ?_); clear hs; intro w hs) | ((with_reducible refine wrapn hs ?_); clear hs; intro w hs) | ((with_reducible refine wrapd hs ?_); clear hs; intro w hs)))
      go_ret
      exact ⟨rfl, by rw [← HP.out.2]; exact rw_close HP.out.1 hs⟩
    · have g1 : decide (k < 0) = false := decide_eq_false h1
      have h2 : (n : Int) ≤ k := by rcases h with h | h | h; exact absurd hm h; exact absurd h h1; exact h
      have g2 : decide ((n : Int) ≤ k) = true := decide_eq_true h2
      clear h hm
      go_enter Try.func34, Try.ntmps34
      go_wp2_with (first | (go_at_call 12; refine (rune12 hs).mono ?_; clear hs; rintro e w ⟨rfl, hs⟩; rw [HMY.out]) | ((with_reducible refine isl ?_); first | ((with_reducible apply ld hs.b0); exact rfl; exact rfl; exact rfl; exact rfl; kernel_rfl) | ((with_reducible apply ld hs.b1); exact rfl; exact rfl; exact rfl; exact rfl; kernel_rfl) | ((with_reducible apply st hs.b0); exact rfl; exact rfl; exact rfl; exact rfl; exact rfl; exact rfl; kernel_rfl; exact rfl; clear hs; intro w hs) | ((with_reducible apply st hs.b1); exact rfl; exact rfl; exact rfl; exact rfl; exact rfl; exact rfl; kernel_rfl; exact rfl; clear hs; intro w hs) | ((with_reducible apply stc hs.b0); exact rfl; exact rfl; exact rfl; exact rfl; exact rfl; kernel_rfl; exact rfl; clear hs; intro w hs) | ((with_reducible apply stc hs.b1); exact rfl; exact rfl; exact rfl; exact rfl; exact rfl; kernel_rfl; exact rfl; clear hs; intro w hs) | ((with_reducible refine wrap hs ?_); clear hs; intro w hs) | ((with_reducible refine wrapn hs ?_); clear hs; intro w hs) | ((with_reducible refine wrapd hs ?_); clear hs; intro w hs)))
      go_ret
      exact ⟨rfl, by rw [← HP.out.2]; exact rw_close HP.out.1 hs⟩
  · have HMY : Hid (decide (mayC x) = false) := Lib.hid (decide_eq_false hm)
    clear h hm
    go_enter Try.func34, Try.ntmps34
    go_wp2_with (first | (go_at_call 12; refine (rune12 hs).mono ?_; clear hs; rintro e w ⟨rfl, hs⟩; rw [HMY.out]) | ((with_reducible refine isl ?_); first | ((with_reducible apply ld hs.b0); exact rfl; exact rfl; exact rfl; exact rfl; kernel_rfl) | ((with_reducible apply ld hs.b1); exact rfl; exact rfl; exact rfl; exact rfl; kernel_rfl) | ((with_reducible apply st hs.b0); exact rfl; exact rfl; exact rfl; exact rfl; exact rfl; exact rfl; kernel_rfl; exact rfl; clear hs; intro w hs) | ((with_reducible apply st hs.b1); exact rfl; exact rfl; exact rfl; exact rfl; exact rfl; exact rfl; kernel_rfl; exact rfl; clear hs; intro w hs) | ((with_reducible apply stc hs.b0); exact rfl; exact rfl; exact rfl; exact rfl; exact rfl; kernel_rfl; exact rfl; clear hs; intro w hs) | ((with_reducible apply stc hs.b1); exact rfl; exact rfl; exact rfl; exact rfl; exact rfl; kernel_rfl; exact rfl; clear hs; intro w hs) | ((with_reducible refine wrap hs ?_); clear hs; intro w hs) | ((with_reducible refine wrapn hs ?_); clear hs; intro w hs) | ((with_reducible refine wrapd hs ?_); clear hs; intro w hs)))
    go_ret
    exact ⟨rfl, by rw [← HP.out.2]; exact rw_close HP.out.1 hs⟩
set_option maxHeartbeats 2000000 in
theorem join34_at {b n k j : Nat} {l : List C} {x : Int} {c d : C} (hn : l.length = n) (h512 : n ≤ 1000) (hm : mayC x) (hc : l[k]? = some c) (hd : l[j]? = some d) (hj : j = if c.w = 2 then k - 1 else k) (hk0 : c.w = 2 → 0 < k) (h4 : d.comb.length ≤ 4) (hs : sat W (rwP 68 b l :: H) w) :
    Calls Try.prog 34 #[.pointer (some ⟨b, 0, none⟩), .int .i64 (k : Int), .int .i32 x] w fun e w' => e = .returned (.int .i64 (joinG l k x).2) ∧ sat W (rwP 68 b (joinG l k x).1 :: H) w' := by
  have hkn : k < n := by rw [← hn]; exact (List.getElem?_eq_some_iff.1 hc).1
  have hjn : j < n := by rw [← hn]; exact (List.getElem?_eq_some_iff.1 hd).1
  have h0 : 0 < n := by omega
  have HMY : Hid (decide (mayC x) = true) := Lib.hid (decide_eq_true hm)
  have e1 : joinG l k x = if 4 ≤ d.comb.length then (l, 8) else (l.set j { d with comb := d.comb ++ [x] }, 0) := by
    unfold joinG
    rw [if_neg (by rintro (h | h | h); exact h hm; omega; omega), Int.toNat_natCast, hc]
    simp only
    rw [← hj, hd]
  have HE := Lib.hid e1
  have g1 : decide ((k : Int) < 0) = false := decide_eq_false (by omega)
  have g2 : decide ((n : Int) ≤ (k : Int)) = false := decide_eq_false (by omega)
  have g24 : ¬ n ≤ k := by omega
  have g3 : (k : Int) < (n : Int) := by omega
  have g4 : (0 : Int) ≤ (k : Int) := by omega
  have HD := Lib.hid hd
  have HCC := Lib.hid hc
  have HJ := Lib.hid hj
  have HK0 := Lib.hid hk0
  obtain ⟨nc, hnc⟩ : ∃ nc, d.comb.length = nc := ⟨_, rfl⟩
  have HNC := Lib.hid hnc
  rw [hnc] at h4 e1
  obtain ⟨ps, a, p, hps, hs⟩ := rw_open hn hs
  have HP : Hid (ps.length = n ∧ ps.map (·.c) = l) := Lib.hid ⟨by rw [← hn, ← hps, List.length_map], hps⟩
  obtain ⟨g, rfl⟩ := own_ptr h0 hs.b1
  obtain ⟨y, hy⟩ : ∃ y, ps[k]? = some y := ⟨_, List.getElem?_eq_getElem (by rw [HP.out.1]; exact hkn)⟩
  obtain ⟨z, hz⟩ : ∃ z, ps[j]? = some z := ⟨_, List.getElem?_eq_getElem (by rw [HP.out.1]; exact hjn)⟩
  have hyc : y.c = c := by have h := HCC.out; rw [← HP.out.2, List.getElem?_map, hy] at h; exact Option.some.inj h
  have hzc : z.c = d := by have h := HD.out; rw [← HP.out.2, List.getElem?_map, hz] at h; exact Option.some.inj h
  subst hyc hzc
  have HY := Lib.hid (rws_get hy)
  have HZ := Lib.hid (rws_get hz)
  have HZ2 := Lib.hid hz
  clear e1 hm hn hd hj hk0 hnc hy hz hc hps
  go_enter Try.func34, Try.ntmps34
  go_upto_if 32 with (first | (go_at_call 12; refine (rune12 hs).mono ?_; clear hs; rintro e w ⟨rfl, hs⟩; rw [HMY.out]) | (first | ((with_reducible apply ldof hs.b0); exact rfl; exact rfl; exact rfl; exact HY.out; exact rws6 _; exact rfl; exact one5) | ((with_reducible apply ldof hs.b1); exact rfl; exact rfl; exact rfl; exact HY.out; exact rws6 _; exact rfl; exact one5) | ((with_reducible apply ldof hs.b2); exact rfl; exact rfl; exact rfl; exact HY.out; exact rws6 _; exact rfl; exact one5)) | ((with_reducible refine isl ?_); first | ((with_reducible apply ld hs.b0); exact rfl; exact rfl; exact rfl; exact rfl; kernel_rfl) | ((with_reducible apply ld hs.b1); exact rfl; exact rfl; exact rfl; exact rfl; kernel_rfl) | ((with_reducible apply st hs.b0); exact rfl; exact rfl; exact rfl; exact rfl; exact rfl; exact rfl; kernel_rfl; exact rfl; clear hs; intro w hs) | ((with_reducible apply st hs.b1); exact rfl; exact rfl; exact rfl; exact rfl; exact rfl; exact rfl; kernel_rfl; exact rfl; clear hs; intro w hs) | ((with_reducible apply stc hs.b0); exact rfl; exact rfl; exact rfl; exact rfl; exact rfl; kernel_rfl; exact rfl; clear hs; intro w hs) | ((with_reducible apply stc hs.b1); exact rfl; exact rfl; exact rfl; exact rfl; exact rfl; kernel_rfl; exact rfl; clear hs; intro w hs) | ((with_reducible refine wrap hs ?_); clear hs; intro w hs) | ((with_reducible refine wrapn hs ?_); clear hs; intro w hs) | ((with_reducible refine wrapd hs ?_); clear hs; intro w hs)))
  go_cut [1] (fun v wx => v = .int .i64 (j : Int) ∧ sat W (cel b 68 [.slice (some ⟨g, 0, none⟩) n p] :: own 41 6 (.slice (some ⟨g, 0, none⟩) n p) n (rws ps).flatten :: cmb ps :: H) wx)
  case first =>
    by_cases hw : y.c.w = 2
    · have q1 : (y.c.w == 2) = true := by rw [beq_iff_eq]; exact hw
      have q2 : decide (y.c.w = 2) = true := decide_eq_true hw
      have hj2 : (j : Int) = (k : Int) - 1 := by have h := HJ.out; rw [if_pos hw] at h; have := HK0.out hw; omega
      have HJ2 := Lib.hid hj2
      clear hw hj2
      go_wp2_with fail
      go_meet
      case rel => exact ⟨by rw [HJ2.out], by refine sb_from ?_ hs; repeat constructor⟩
    · have q1 : (y.c.w == 2) = false := beq_eq_false_iff_ne.2 hw
      have q2 : decide (y.c.w = 2) = false := decide_eq_false hw
      have hj2 : (j : Int) = (k : Int) := by have h := HJ.out; rw [if_neg hw] at h; omega
      have HJ2 := Lib.hid hj2
      clear hj2
      go_wp2_with fail
      go_meet
      case rel => exact ⟨by rw [HJ2.out], by refine sb_from ?_ hs; repeat constructor⟩
  case rest =>
    clear hs
    obtain ⟨rfl, hs⟩ := hcut
    have g5 : (j : Int) < (n : Int) := by omega
    have g6 : (0 : Int) ≤ (j : Int) := by omega
    obtain ⟨⟨rz, cb, wz, az⟩, za, zp⟩ := z
    simp only at HNC HE HD
    have HNC2 : Hid (cb.length = nc) := HNC
    simp only [pcV, pcS] at HZ
    rw [HNC2.out] at HZ
    by_cases h8 : 4 ≤ nc
    · have HR : Hid (joinG l k x = (l, 8)) := Lib.hid (by rw [HE.out, if_pos (by rw [HNC2.out]; exact h8)])
      go_wp2_with (first | (first | ((with_reducible apply ldof hs.b0); exact rfl; exact rfl; exact rfl; exact HZ.out; exact rws6 _; exact rfl; exact one39) | ((with_reducible apply ldof hs.b1); exact rfl; exact rfl; exact rfl; exact HZ.out; exact rws6 _; exact rfl; exact one39) | ((with_reducible apply ldof hs.b2); exact rfl; exact rfl; exact rfl; exact HZ.out; exact rws6 _; exact rfl; exact one39) | ((with_reducible apply ldof hs.b3); exact rfl; exact rfl; exact rfl; exact HZ.out; exact rws6 _; exact rfl; exact one39) | ((with_reducible apply ldof hs.b4); exact rfl; exact rfl; exact rfl; exact HZ.out; exact rws6 _; exact rfl; exact one39) | ((with_reducible apply ldof hs.b5); exact rfl; exact rfl; exact rfl; exact HZ.out; exact rws6 _; exact rfl; exact one39)) | ((with_reducible refine isl ?_); first | ((with_reducible apply ld hs.b0); exact rfl; exact rfl; exact rfl; exact rfl; kernel_rfl) | ((with_reducible apply ld hs.b1); exact rfl; exact rfl; exact rfl; exact rfl; kernel_rfl) | ((with_reducible apply st hs.b0); exact rfl; exact rfl; exact rfl; exact rfl; exact rfl; exact rfl; kernel_rfl; exact rfl; clear hs; intro w hs) | ((with_reducible apply st hs.b1); exact rfl; exact rfl; exact rfl; exact rfl; exact rfl; exact rfl; kernel_rfl; exact rfl; clear hs; intro w hs) | ((with_reducible apply stc hs.b0); exact rfl; exact rfl; exact rfl; exact rfl; exact rfl; kernel_rfl; exact rfl; clear hs; intro w hs) | ((with_reducible apply stc hs.b1); exact rfl; exact rfl; exact rfl; exact rfl; exact rfl; kernel_rfl; exact rfl; clear hs; intro w hs) | ((with_reducible refine wrap hs ?_); clear hs; intro w hs) | ((with_reducible refine wrapn hs ?_); clear hs; intro w hs) | ((with_reducible refine wrapd hs ?_); clear hs; intro w hs)))
      go_ret
      refine ⟨by rw [HR.out]; rfl, ?_⟩
      rw [HR.out]
      have h6 := rw_close HP.out.1 hs
      rw [HP.out.2] at h6
      exact h6
    · have HR : Hid (joinG l k x = (l.set j ⟨rz, cb ++ [x], wz, az⟩, 0)) := Lib.hid (by rw [HE.out, if_neg (by rw [HNC2.out]; exact h8)])
      have HO : Hid (∀ (H : List HProp) (w : World), sat W (cmb ps :: H) w → Calls Try.prog 53 #[.agg #[.int .i32 rz, .slice za nc zp, .int .u8 wz, .int .u32 az.fg, .int .u32 az.bg, .int .u16 az.fl]] w fun e w' => ∃ a' p', e = .returned (.agg #[.int .i32 rz, .slice a' nc p', .int .u8 wz, .int .u32 az.fg, .int .u32 az.bg, .int .u16 az.fl]) ∧ sat W (own 21 1 (.slice a' nc p') nc (runes cb) :: cmb ps :: H) w') := Lib.hid fun H w hs => by
        have h := own53_at (x := ⟨⟨rz, cb, wz, az⟩, za, zp⟩) (by show cb.length ≤ 4; rw [HNC2.out]; exact h4) HZ2.out hs
        simp only [pcS, HNC2.out] at h
        refine h.mono fun e w' ⟨⟨yc, ya, yp⟩, he, hy, h1⟩ => ?_
        simp only at hy
        subst hy
        unfold cmb1 at h1
        simp only [pcS, HNC2.out] at h1 he
        exact ⟨ya, yp, he, h1⟩
      have HJN : Hid (j < (rws ps).length) := Lib.hid (by rw [rws_len, HP.out.1]; exact hjn)
      have HS : Hid (∀ a' p', (rws ps).set j [.int .i32 rz, .slice a' (nc + 1) p', .int .u8 wz, .int .u32 az.fg, .int .u32 az.bg, .int .u16 az.fl] = rws (ps.set j ⟨⟨rz, cb ++ [x], wz, az⟩, a', p'⟩)) := Lib.hid fun a' p' => by
        have e : pcV ⟨⟨rz, cb ++ [x], wz, az⟩, a', p'⟩ = [.int .i32 rz, .slice a' (nc + 1) p', .int .u8 wz, .int .u32 az.fg, .int .u32 az.bg, .int .u16 az.fl] := by simp [pcS, HNC2.out]
        rw [← rws_set, e]
      go_upto_region 9 with (first | (first | ((with_reducible apply ldof hs.b0); exact rfl; exact rfl; exact rfl; exact HZ.out; exact rws6 _; exact rfl; exact one39) | ((with_reducible apply ldof hs.b1); exact rfl; exact rfl; exact rfl; exact HZ.out; exact rws6 _; exact rfl; exact one39) | ((with_reducible apply ldof hs.b2); exact rfl; exact rfl; exact rfl; exact HZ.out; exact rws6 _; exact rfl; exact one39) | ((with_reducible apply ldof hs.b3); exact rfl; exact rfl; exact rfl; exact HZ.out; exact rws6 _; exact rfl; exact one39) | ((with_reducible apply ldof hs.b4); exact rfl; exact rfl; exact rfl; exact HZ.out; exact rws6 _; exact rfl; exact one39) | ((with_reducible apply ldof hs.b5); exact rfl; exact rfl; exact rfl; exact HZ.out; exact rws6 _; exact rfl; exact one39)) | (first | ((with_reducible apply ldor hs.b0); exact rfl; exact rfl; exact rfl; exact HZ.out; exact rws6 _; exact row41) | ((with_reducible apply ldor hs.b1); exact rfl; exact rfl; exact rfl; exact HZ.out; exact rws6 _; exact row41) | ((with_reducible apply ldor hs.b2); exact rfl; exact rfl; exact rfl; exact HZ.out; exact rws6 _; exact row41) | ((with_reducible apply ldor hs.b3); exact rfl; exact rfl; exact rfl; exact HZ.out; exact rws6 _; exact row41) | ((with_reducible apply ldor hs.b4); exact rfl; exact rfl; exact rfl; exact HZ.out; exact rws6 _; exact row41) | ((with_reducible apply ldor hs.b5); exact rfl; exact rfl; exact rfl; exact HZ.out; exact rws6 _; exact row41)) | (go_at_call 53; refine (HO.out _ _ (by apply sk_from (hs := hs); repeat constructor)).mono ?_; clear hs; rintro e w ⟨a7, p7, rfl, hs⟩) | (first | ((with_reducible apply app (T' := 21) hs.b0); exact rfl; exact rfl; exact rfl; exact rfl; exact slty39; exact rfl; exact rfl; decide; omega; (unfold maxLen; omega); clear hs; intro a5 c5 w hs; rw [runes_snoc] at hs) | ((with_reducible apply app (T' := 21) hs.b1); exact rfl; exact rfl; exact rfl; exact rfl; exact slty39; exact rfl; exact rfl; decide; omega; (unfold maxLen; omega); clear hs; intro a5 c5 w hs; rw [runes_snoc] at hs) | ((with_reducible apply app (T' := 21) hs.b2); exact rfl; exact rfl; exact rfl; exact rfl; exact slty39; exact rfl; exact rfl; decide; omega; (unfold maxLen; omega); clear hs; intro a5 c5 w hs; rw [runes_snoc] at hs) | ((with_reducible apply app (T' := 21) hs.b3); exact rfl; exact rfl; exact rfl; exact rfl; exact slty39; exact rfl; exact rfl; decide; omega; (unfold maxLen; omega); clear hs; intro a5 c5 w hs; rw [runes_snoc] at hs) | ((with_reducible apply app (T' := 21) hs.b4); exact rfl; exact rfl; exact rfl; exact rfl; exact slty39; exact rfl; exact rfl; decide; omega; (unfold maxLen; omega); clear hs; intro a5 c5 w hs; rw [runes_snoc] at hs) | ((with_reducible apply app (T' := 21) hs.b5); exact rfl; exact rfl; exact rfl; exact rfl; exact slty39; exact rfl; exact rfl; decide; omega; (unfold maxLen; omega); clear hs; intro a5 c5 w hs; rw [runes_snoc] at hs)) | ((with_reducible refine isl ?_); first | ((with_reducible apply stsw hs.b0); exact rfl; exact rfl; exact rfl; exact rfl; exact row41; exact rfl; exact rfl; exact rfl; clear hs; intro w hs) | ((with_reducible apply stsw hs.b1); exact rfl; exact rfl; exact rfl; exact rfl; exact row41; exact rfl; exact rfl; exact rfl; clear hs; intro w hs) | ((with_reducible apply stsw hs.b2); exact rfl; exact rfl; exact rfl; exact rfl; exact row41; exact rfl; exact rfl; exact rfl; clear hs; intro w hs) | ((with_reducible apply stsw hs.b3); exact rfl; exact rfl; exact rfl; exact rfl; exact row41; exact rfl; exact rfl; exact rfl; clear hs; intro w hs) | ((with_reducible apply stsw hs.b4); exact rfl; exact rfl; exact rfl; exact rfl; exact row41; exact rfl; exact rfl; exact rfl; clear hs; intro w hs) | ((with_reducible apply stsw hs.b5); exact rfl; exact rfl; exact rfl; exact rfl; exact row41; exact rfl; exact rfl; exact rfl; clear hs; intro w hs) | ((with_reducible apply ld hs.b0); exact rfl; exact rfl; exact rfl; exact rfl; kernel_rfl) | ((with_reducible apply ld hs.b1); exact rfl; exact rfl; exact rfl; exact rfl; kernel_rfl) | ((with_reducible apply ld hs.b2); exact rfl; exact rfl; exact rfl; exact rfl; kernel_rfl) | ((with_reducible apply ld hs.b3); exact rfl; exact rfl; exact rfl; exact rfl; kernel_rfl) | ((with_reducible apply ld hs.b4); exact rfl; exact rfl; exact rfl; exact rfl; kernel_rfl) | ((with_reducible apply ld hs.b5); exact rfl; exact rfl; exact rfl; exact rfl; kernel_rfl) | ((with_reducible apply st hs.b0); exact rfl; exact rfl; exact rfl; exact rfl; exact rfl; exact rfl; kernel_rfl; exact rfl; clear hs; intro w hs) | ((with_reducible apply st hs.b1); exact rfl; exact rfl; exact rfl; exact rfl; exact rfl; exact rfl; kernel_rfl; exact rfl; clear hs; intro w hs) | ((with_reducible apply st hs.b2); exact rfl; exact rfl; exact rfl; exact rfl; exact rfl; exact rfl; kernel_rfl; exact rfl; clear hs; intro w hs) | ((with_reducible apply st hs.b3); exact rfl; exact rfl; exact rfl; exact rfl; exact rfl; exact rfl; kernel_rfl; exact rfl; clear hs; intro w hs) | ((with_reducible apply st hs.b4); exact rfl; exact rfl; exact rfl; exact rfl; exact rfl; exact rfl; kernel_rfl; exact rfl; clear hs; intro w hs) | ((with_reducible apply st hs.b5); exact rfl; exact rfl; exact rfl; exact rfl; exact rfl; exact rfl; kernel_rfl; exact rfl; clear hs; intro w hs) | ((with_reducible apply stc hs.b0); exact rfl; exact rfl; exact rfl; exact rfl; exact rfl; kernel_rfl; exact rfl; clear hs; intro w hs) | ((with_reducible apply stc hs.b1); exact rfl; exact rfl; exact rfl; exact rfl; exact rfl; kernel_rfl; exact rfl; clear hs; intro w hs) | ((with_reducible apply stc hs.b2); exact rfl; exact rfl; exact rfl; exact rfl; exact rfl; kernel_rfl; exact rfl; clear hs; intro w hs) | ((with_reducible apply stc hs.b3); exact rfl; exact rfl; exact rfl; exact rfl; exact rfl; kernel_rfl; exact rfl; clear hs; intro w hs) | ((with_reducible apply stc hs.b4); exact rfl; exact rfl; exact rfl; exact rfl; exact rfl; kernel_rfl; exact rfl; clear hs; intro w hs) | ((with_reducible apply stc hs.b5); exact rfl; exact rfl; exact rfl; exact rfl; exact rfl; kernel_rfl; exact rfl; clear hs; intro w hs) | ((with_reducible refine wrap hs ?_); clear hs; (first | (have _t := z7; clear _t; generalize w.heap.size = z8) | generalize w.heap.size = z7); intro w hs) | ((with_reducible refine wrap hs ?_); clear hs; intro w hs) | ((with_reducible refine wrapn hs ?_); clear hs; intro w hs) | ((with_reducible refine wrapd hs ?_); clear hs; intro w hs)))
      simp only [List.set_cons_succ, List.set_cons_zero] at hs
      refine region_mix [([0, 1, 2, 3, 4, 5, 6], [7])] [] hs (fun _ h => by (show sat W [cel b 68 [.slice (some ⟨g, 0, none⟩) n p], cel z7 41 [.int .i32 rz, .slice (some ⟨a5, 0, none⟩) (nc + 1) c5, .int .u8 wz, .int .u32 az.fg, .int .u32 az.bg, .int .u16 az.fl]] _; refine sb_from ?_ h; repeat constructor)) (by kernel_rfl) (by kernel_rfl) (fun _ _ _ _ _ h => h) ?_
      simp only [segs, nths, nth, List.append_nil, List.nil_append, List.cons_append, List.map_cons, List.map_nil]
      refine seg_reads (fun _ h => by (show sat W [cel b 68 [.slice (some ⟨g, 0, none⟩) n p], cel z7 41 [.int .i32 rz, .slice (some ⟨a5, 0, none⟩) (nc + 1) c5, .int .u8 wz, .int .u32 az.fg, .int .u32 az.bg, .int .u16 az.fl]] _; refine sb_from ?_ h; repeat constructor)) ?_; intro X f hne hf hcl; (try simp only [Act.put, List.setIfInBounds_toArray, List.set_cons_succ, List.set_cons_zero]); (repeat ((first | ((with_reducible apply ldsq (cs := [.int .i32 rz, .slice (some ⟨a5, 0, none⟩) (nc + 1) c5, .int .u8 wz, .int .u32 az.fg, .int .u32 az.bg, .int .u16 az.fl]) 6 (fun x => (hf x).b0)); exact rfl; exact rfl; exact rfl; exact row41; exact rfl; exact rfl) | ((with_reducible apply ldsq (cs := [.int .i32 rz, .slice (some ⟨a5, 0, none⟩) (nc + 1) c5, .int .u8 wz, .int .u32 az.fg, .int .u32 az.bg, .int .u16 az.fl]) 6 (fun x => (hf x).b1)); exact rfl; exact rfl; exact rfl; exact row41; exact rfl; exact rfl) | ((with_reducible apply ldq (fun x => (hf x).b0)); exact rfl; exact rfl; exact rfl; exact rfl; kernel_rfl) | ((with_reducible apply ldq (fun x => (hf x).b1)); exact rfl; exact rfl; exact rfl; exact rfl; kernel_rfl) | ((with_reducible apply ldq (fun x => (hf x).b2)); exact rfl; exact rfl; exact rfl; exact rfl; kernel_rfl) | go_big_quiet_step (fail)); (try simp only [Act.put, List.setIfInBounds_toArray, List.set_cons_succ, List.set_cons_zero]))); refine wpQuiet_nil ?_; clear hcl hf hne hs f X; intro w hs
      go_wp2_with (first | (first | ((with_reducible apply stor hs.b0); exact rfl; exact rfl; exact rfl; exact rfl; exact HJN.out; exact rws6 _; exact row41; exact rfl; exact rfl; exact rfl; clear hs; intro w hs; rw [HS.out] at hs) | ((with_reducible apply stor hs.b1); exact rfl; exact rfl; exact rfl; exact rfl; exact HJN.out; exact rws6 _; exact row41; exact rfl; exact rfl; exact rfl; clear hs; intro w hs; rw [HS.out] at hs) | ((with_reducible apply stor hs.b2); exact rfl; exact rfl; exact rfl; exact rfl; exact HJN.out; exact rws6 _; exact row41; exact rfl; exact rfl; exact rfl; clear hs; intro w hs; rw [HS.out] at hs) | ((with_reducible apply stor hs.b3); exact rfl; exact rfl; exact rfl; exact rfl; exact HJN.out; exact rws6 _; exact row41; exact rfl; exact rfl; exact rfl; clear hs; intro w hs; rw [HS.out] at hs) | ((with_reducible apply stor hs.b4); exact rfl; exact rfl; exact rfl; exact rfl; exact HJN.out; exact rws6 _; exact row41; exact rfl; exact rfl; exact rfl; clear hs; intro w hs; rw [HS.out] at hs) | ((with_reducible apply stor hs.b5); exact rfl; exact rfl; exact rfl; exact rfl; exact HJN.out; exact rws6 _; exact row41; exact rfl; exact rfl; exact rfl; clear hs; intro w hs; rw [HS.out] at hs)) | ((with_reducible refine isl ?_); first | ((with_reducible apply ld hs.b0); exact rfl; exact rfl; exact rfl; exact rfl; kernel_rfl) | ((with_reducible apply st hs.b0); exact rfl; exact rfl; exact rfl; exact rfl; exact rfl; exact rfl; kernel_rfl; exact rfl; clear hs; intro w hs) | ((with_reducible apply stc hs.b0); exact rfl; exact rfl; exact rfl; exact rfl; exact rfl; kernel_rfl; exact rfl; clear hs; intro w hs) | ((with_reducible refine wrap hs ?_); clear hs; intro w hs) | ((with_reducible refine wrapn hs ?_); clear hs; intro w hs) | ((with_reducible refine wrapd hs ?_); clear hs; intro w hs)))
      (first | refine seg_on hs (fun _ h => h) ?_ ?_ | refine seg_on hs.made (fun _ h => h) ?_ ?_ | refine seg_on hs.drew (fun _ h => h) ?_ ?_ | refine seg_on hs.drew.made (fun _ h => h) ?_ ?_ | refine seg_on (hs.drewN _) (fun _ h => h) ?_ ?_)
      · exact fun _ h => by (show sat W [cel b 68 [.slice (some ⟨g, 0, none⟩) n p], cel z7 41 [.int .i32 rz, .slice (some ⟨a5, 0, none⟩) (nc + 1) c5, .int .u8 wz, .int .u32 az.fg, .int .u32 az.bg, .int .u16 az.fl]] _; refine sb_from ?_ h; repeat constructor)
      clear hs; intro hs
      refine seg_last (fun _ h => by (show sat W [cel b 68 [.slice (some ⟨g, 0, none⟩) n p], cel z7 41 [.int .i32 rz, .slice (some ⟨a5, 0, none⟩) (nc + 1) c5, .int .u8 wz, .int .u32 az.fg, .int .u32 az.bg, .int .u16 az.fl]] _; refine sb_from ?_ h; repeat constructor)) ?_; intro X f hne hf hcl; (try simp only [Act.put, List.setIfInBounds_toArray, List.set_cons_succ, List.set_cons_zero]); (repeat ((first | ((with_reducible apply ldsq (cs := [.int .i32 rz, .slice (some ⟨a5, 0, none⟩) (nc + 1) c5, .int .u8 wz, .int .u32 az.fg, .int .u32 az.bg, .int .u16 az.fl]) 6 (fun x => (hf x).b0)); exact rfl; exact rfl; exact rfl; exact row41; exact rfl; exact rfl) | ((with_reducible apply ldsq (cs := [.int .i32 rz, .slice (some ⟨a5, 0, none⟩) (nc + 1) c5, .int .u8 wz, .int .u32 az.fg, .int .u32 az.bg, .int .u16 az.fl]) 6 (fun x => (hf x).b1)); exact rfl; exact rfl; exact rfl; exact row41; exact rfl; exact rfl) | ((with_reducible apply ldq (fun x => (hf x).b0)); exact rfl; exact rfl; exact rfl; exact rfl; kernel_rfl) | ((with_reducible apply ldq (fun x => (hf x).b1)); exact rfl; exact rfl; exact rfl; exact rfl; kernel_rfl) | ((with_reducible apply ldq (fun x => (hf x).b2)); exact rfl; exact rfl; exact rfl; exact rfl; kernel_rfl) | go_big_quiet_step (fail)); (try simp only [Act.put, List.setIfInBounds_toArray, List.set_cons_succ, List.set_cons_zero]))); refine wpQuiet_nil ?_; clear hcl hf hne hs f X; intro w hs
      go_wp2_with fail
      go_ret
      refine ⟨by rw [HR.out]; rfl, ?_⟩
      rw [HR.out]
      have hl : (cb ++ [x]).length = nc + 1 := by rw [List.length_append, HNC2.out]; rfl
      have h6 : sat W (cmb ps :: own 21 1 (.slice (some ⟨a5, 0, none⟩) (nc + 1) c5) (nc + 1) (runes (cb ++ [x])) :: own 41 6 (.slice (some ⟨g, 0, none⟩) n p) n (rws (ps.set j ⟨⟨rz, cb ++ [x], wz, az⟩, some ⟨a5, 0, none⟩, c5⟩)).flatten :: cel b 68 [.slice (some ⟨g, 0, none⟩) n p] :: H) w := by refine sb_from ?_ hs; repeat constructor
      have h7 := (cmb_at HZ2.out h6).drop
      have h8 : sat W (cmb1 ⟨⟨rz, cb ++ [x], wz, az⟩, some ⟨a5, 0, none⟩, c5⟩ :: cmb (ps.take j) :: cmb (ps.drop (j + 1)) :: own 41 6 (.slice (some ⟨g, 0, none⟩) n p) n (rws (ps.set j ⟨⟨rz, cb ++ [x], wz, az⟩, some ⟨a5, 0, none⟩, c5⟩)).flatten :: cel b 68 [.slice (some ⟨g, 0, none⟩) n p] :: H) w := by
        unfold cmb1
        simp only [pcS, hl]
        refine sb_from ?_ h7; repeat constructor
      have h9 := cmb_put (l := ps) (i := j) (by rw [HP.out.1]; exact hjn) h8
      have h10 := rw_close (ps := ps.set j ⟨⟨rz, cb ++ [x], wz, az⟩, some ⟨a5, 0, none⟩, c5⟩) (T := 68) (b := b) (n := n) (a := some ⟨g, 0, none⟩) (p := p) (by rw [List.length_set]; exact HP.out.1) (by refine sb_from ?_ h9; repeat constructor)
      simp only [List.map_set, HP.out.2] at h10
      exact h10
theorem join34 {b n : Nat} {l : List C} {k x : Int} (hn : l.length = n) (h512 : n ≤ 1000) (h4 : ∀ c ∈ l, c.comb.length ≤ 4) (hk0 : ∀ c, l[0]? = some c → c.w ≠ 2) (hs : sat W (rwP 68 b l :: H) w) :
    Calls Try.prog 34 #[.pointer (some ⟨b, 0, none⟩), .int .i64 k, .int .i32 x] w fun e w' => e = .returned (.int .i64 (joinG l k x).2) ∧ sat W (rwP 68 b (joinG l k x).1 :: H) w' := by
  by_cases h : ¬ mayC x ∨ k < 0 ∨ (n : Int) ≤ k
  · have e : joinG l k x = (l, 2) := by unfold joinG; rw [if_pos (by rw [hn]; exact h)]
    rw [e]
    exact join34_no hn h hs
  · have hm : mayC x := by
      by_cases hm : mayC x
      · exact hm
      · exact absurd (.inl hm) h
    obtain ⟨j, rfl⟩ : ∃ j : Nat, k = (j : Int) := ⟨k.toNat, by omega⟩
    obtain ⟨c, hc⟩ : ∃ c, l[j]? = some c := ⟨_, List.getElem?_eq_getElem (by rw [hn]; omega)⟩
    have hw : c.w = 2 → 0 < j := fun hw => by
      rcases Nat.eq_zero_or_pos j with h1 | h1
      · subst h1; exact absurd hw (hk0 c hc)
      · exact h1
    obtain ⟨d, hd⟩ : ∃ d, l[if c.w = 2 then j - 1 else j]? = some d := ⟨_, List.getElem?_eq_getElem (by rw [hn]; split <;> omega)⟩
    exact join34_at hn h512 hm hc hd rfl hw (h4 d (List.mem_of_getElem? hd)) hs
theorem from50 {b n : Nat} {l : List C} {k : Int} (hn : l.length = n) (h0 : 0 < n) (h512 : n ≤ 1000) (hs : sat W (rwP 68 b l :: H) w) : Calls Try.prog 50 #[.pointer (some ⟨b, 0, none⟩), .int .i64 k] w fun e w' => e = .returned (.bool (decide (∀ c ∈ l.drop (min (max k 0) n).toNat, isB c))) ∧ sat W (rwP 68 b l :: H) w' := by
  obtain ⟨ps, a, p, hps, hs⟩ := rw_open hn hs
  have HP : Hid (ps.length = n ∧ ps.map (·.c) = l) := Lib.hid ⟨by rw [← hn, ← hps, List.length_map], hps⟩
  obtain ⟨g, rfl⟩ := own_ptr h0 hs.b1
  obtain ⟨c0, hc0⟩ : ∃ c0 : Nat, (min (max k 0) (n : Int)).toNat = c0 := ⟨_, rfl⟩
  rw [hc0]
  have HC0 : Hid ((c0 : Int) = min (max k 0) (n : Int)) := Lib.hid (by omega)
  clear hn hps hc0
  go_enter Try.func50, Try.ntmps50
  go_wp2_with (first | ((with_reducible refine isl ?_); first | ((with_reducible apply ld hs.b0); exact rfl; exact rfl; exact rfl; exact rfl; kernel_rfl) | ((with_reducible apply st hs.b0); exact rfl; exact rfl; exact rfl; exact rfl; exact rfl; exact rfl; kernel_rfl; exact rfl; clear hs; intro w hs) | ((with_reducible apply stc hs.b0); exact rfl; exact rfl; exact rfl; exact rfl; exact rfl; kernel_rfl; exact rfl; clear hs; intro w hs) | ((with_reducible refine wrap hs ?_); clear hs; intro w hs) | ((with_reducible refine wrapn hs ?_); clear hs; intro w hs) | ((with_reducible refine wrapd hs ?_); clear hs; intro w hs)))
  go_loopw [5] (fun i wx => ∃ i0 : Nat, i0 ≤ n ∧ i = .int .i64 (i0 : Int) ∧ Hid (∀ c ∈ (l.take i0).drop c0, isB c) ∧ sat W (cel b 68 [.slice (some ⟨g, 0, none⟩) n p] :: own 41 6 (.slice (some ⟨g, 0, none⟩) n p) n (rws ps).flatten :: cmb ps :: H) wx) (fun i _ => ((n : Int) - intOf i).toNat)
  case atStart => exact ⟨0, Nat.zero_le _, rfl, Lib.hid (by simp), hs⟩
  case round =>
    clear hs
    obtain ⟨i0, hi, rfl, HI, hs⟩ := hrel
    by_cases hin : i0 < n
    · obtain ⟨x, hx⟩ : ∃ x, ps[i0]? = some x := ⟨_, List.getElem?_eq_getElem (by rw [HP.out.1]; exact hin)⟩
      have hcx : l[i0]? = some x.c := by rw [← HP.out.2, List.getElem?_map, hx]; rfl
      have HX := Lib.hid (rws_get hx)
      have HCX := Lib.hid hcx
      clear hx hcx
      by_cases hk : (i0 : Int) < k
      · have g1 : decide (k ≤ (i0 : Int)) = false := decide_eq_false (by omega)
        have HI2 : Hid (∀ c ∈ (l.take (i0 + 1)).drop c0, isB c) := Lib.hid (by
          rw [List.drop_eq_nil_of_le (by rw [List.length_take]; have := HC0.out; omega)]
          intro c hc; simp at hc)
        go_wp2_with (first | (first | ((with_reducible apply ldor hs.b0); exact rfl; exact rfl; exact rfl; exact HX.out; exact rws6 _; exact row41) | ((with_reducible apply ldor hs.b1); exact rfl; exact rfl; exact rfl; exact HX.out; exact rws6 _; exact row41) | ((with_reducible apply ldor hs.b2); exact rfl; exact rfl; exact rfl; exact HX.out; exact rws6 _; exact row41)) | ((with_reducible refine isl ?_); first | ((with_reducible apply ld hs.b0); exact rfl; exact rfl; exact rfl; exact rfl; kernel_rfl) | ((with_reducible apply ld hs.b1); exact rfl; exact rfl; exact rfl; exact rfl; kernel_rfl) | ((with_reducible apply st hs.b0); exact rfl; exact rfl; exact rfl; exact rfl; exact rfl; exact rfl; kernel_rfl; exact rfl; clear hs; intro w hs) | ((with_reducible apply st hs.b1); exact rfl; exact rfl; exact rfl; exact rfl; exact rfl; exact rfl; kernel_rfl; exact rfl; clear hs; intro w hs) | ((with_reducible apply stc hs.b0); exact rfl; exact rfl; exact rfl; exact rfl; exact rfl; kernel_rfl; exact rfl; clear hs; intro w hs) | ((with_reducible apply stc hs.b1); exact rfl; exact rfl; exact rfl; exact rfl; exact rfl; kernel_rfl; exact rfl; clear hs; intro w hs) | ((with_reducible refine wrap hs ?_); clear hs; intro w hs) | ((with_reducible refine wrapn hs ?_); clear hs; intro w hs) | ((with_reducible refine wrapd hs ?_); clear hs; intro w hs)))
        go_roundw
        case rel => exact ⟨i0 + 1, by omega, by go_num, HI2, hs⟩
        case measure => simp [intOf]; omega
      · have g1 : decide (k ≤ (i0 : Int)) = true := decide_eq_true (by omega)
        have hc1 : c0 ≤ i0 := by have := HC0.out; omega
        by_cases hb : isB x.c
        · have HB : Hid (decide (isB x.c) = true) := Lib.hid (decide_eq_true hb)
          have HI2 : Hid (∀ c ∈ (l.take (i0 + 1)).drop c0, isB c) := Lib.hid (by
            intro c hc
            rw [List.take_add_one, HCX.out, List.drop_append_of_le_length (by rw [List.length_take, ← HP.out.2, List.length_map, HP.out.1]; omega)] at hc
            rcases List.mem_append.1 hc with h | h
            · exact HI.out c h
            · simp at h; rw [h]; exact hb)
          clear hb
          go_wp2_with (first | (first | ((with_reducible apply ldor hs.b0); exact rfl; exact rfl; exact rfl; exact HX.out; exact rws6 _; exact row41) | ((with_reducible apply ldor hs.b1); exact rfl; exact rfl; exact rfl; exact HX.out; exact rws6 _; exact row41) | ((with_reducible apply ldor hs.b2); exact rfl; exact rfl; exact rfl; exact HX.out; exact rws6 _; exact row41)) | (go_at_call 57; refine (blank57 (c := x.c) rfl hs).mono ?_; clear hs; rintro e w ⟨rfl, hs⟩; rw [HB.out]) | ((with_reducible refine isl ?_); first | ((with_reducible apply ld hs.b0); exact rfl; exact rfl; exact rfl; exact rfl; kernel_rfl) | ((with_reducible apply ld hs.b1); exact rfl; exact rfl; exact rfl; exact rfl; kernel_rfl) | ((with_reducible apply st hs.b0); exact rfl; exact rfl; exact rfl; exact rfl; exact rfl; exact rfl; kernel_rfl; exact rfl; clear hs; intro w hs) | ((with_reducible apply st hs.b1); exact rfl; exact rfl; exact rfl; exact rfl; exact rfl; exact rfl; kernel_rfl; exact rfl; clear hs; intro w hs) | ((with_reducible apply stc hs.b0); exact rfl; exact rfl; exact rfl; exact rfl; exact rfl; kernel_rfl; exact rfl; clear hs; intro w hs) | ((with_reducible apply stc hs.b1); exact rfl; exact rfl; exact rfl; exact rfl; exact rfl; kernel_rfl; exact rfl; clear hs; intro w hs) | ((with_reducible refine wrap hs ?_); clear hs; intro w hs) | ((with_reducible refine wrapn hs ?_); clear hs; intro w hs) | ((with_reducible refine wrapd hs ?_); clear hs; intro w hs)))
          go_roundw
          case rel => exact ⟨i0 + 1, by omega, by go_num, HI2, hs⟩
          case measure => simp [intOf]; omega
        · have HB : Hid (decide (isB x.c) = false) := Lib.hid (decide_eq_false hb)
          have HR : Hid (decide (∀ c ∈ l.drop c0, isB c) = false) := Lib.hid (decide_eq_false fun h => hb (h x.c (List.mem_iff_getElem?.2 ⟨i0 - c0, by rw [List.getElem?_drop, show c0 + (i0 - c0) = i0 from by omega]; exact HCX.out⟩)))
          clear hb
          go_wp2_with (first | (first | ((with_reducible apply ldor hs.b0); exact rfl; exact rfl; exact rfl; exact HX.out; exact rws6 _; exact row41) | ((with_reducible apply ldor hs.b1); exact rfl; exact rfl; exact rfl; exact HX.out; exact rws6 _; exact row41) | ((with_reducible apply ldor hs.b2); exact rfl; exact rfl; exact rfl; exact HX.out; exact rws6 _; exact row41)) | (go_at_call 57; refine (blank57 (c := x.c) rfl hs).mono ?_; clear hs; rintro e w ⟨rfl, hs⟩; rw [HB.out]) | ((with_reducible refine isl ?_); first | ((with_reducible apply ld hs.b0); exact rfl; exact rfl; exact rfl; exact rfl; kernel_rfl) | ((with_reducible apply ld hs.b1); exact rfl; exact rfl; exact rfl; exact rfl; kernel_rfl) | ((with_reducible apply st hs.b0); exact rfl; exact rfl; exact rfl; exact rfl; exact rfl; exact rfl; kernel_rfl; exact rfl; clear hs; intro w hs) | ((with_reducible apply st hs.b1); exact rfl; exact rfl; exact rfl; exact rfl; exact rfl; exact rfl; kernel_rfl; exact rfl; clear hs; intro w hs) | ((with_reducible apply stc hs.b0); exact rfl; exact rfl; exact rfl; exact rfl; exact rfl; kernel_rfl; exact rfl; clear hs; intro w hs) | ((with_reducible apply stc hs.b1); exact rfl; exact rfl; exact rfl; exact rfl; exact rfl; kernel_rfl; exact rfl; clear hs; intro w hs) | ((with_reducible refine wrap hs ?_); clear hs; intro w hs) | ((with_reducible refine wrapn hs ?_); clear hs; intro w hs) | ((with_reducible refine wrapd hs ?_); clear hs; intro w hs)))
          go_ret
          exact ⟨ret_bool HR.out, by rw [← HP.out.2]; exact rw_close HP.out.1 hs⟩
    · have hge : ¬ (i0 : Int) < (n : Int) := by omega
      have HR : Hid (decide (∀ c ∈ l.drop c0, isB c) = true) := Lib.hid (decide_eq_true (by
        have h := HI.out
        rwa [List.take_of_length_le (by rw [← HP.out.2, List.length_map, HP.out.1]; omega)] at h))
      clear hin
      go_wp2_with (first | ((with_reducible refine isl ?_); first | ((with_reducible apply ld hs.b0); exact rfl; exact rfl; exact rfl; exact rfl; kernel_rfl) | ((with_reducible apply ld hs.b1); exact rfl; exact rfl; exact rfl; exact rfl; kernel_rfl) | ((with_reducible apply st hs.b0); exact rfl; exact rfl; exact rfl; exact rfl; exact rfl; exact rfl; kernel_rfl; exact rfl; clear hs; intro w hs) | ((with_reducible apply st hs.b1); exact rfl; exact rfl; exact rfl; exact rfl; exact rfl; exact rfl; kernel_rfl; exact rfl; clear hs; intro w hs) | ((with_reducible apply stc hs.b0); exact rfl; exact rfl; exact rfl; exact rfl; exact rfl; kernel_rfl; exact rfl; clear hs; intro w hs) | ((with_reducible apply stc hs.b1); exact rfl; exact rfl; exact rfl; exact rfl; exact rfl; kernel_rfl; exact rfl; clear hs; intro w hs) | ((with_reducible refine wrap hs ?_); clear hs; intro w hs) | ((with_reducible refine wrapn hs ?_); clear hs; intro w hs) | ((with_reducible refine wrapd hs ?_); clear hs; intro w hs)))
      go_ret
      exact ⟨ret_bool HR.out, by rw [← HP.out.2]; exact rw_close HP.out.1 hs⟩
end Go.Proofs.Yteoeeiinngpogaa
