/- Law 6: Join, Resize, Blank. -/
import Derived.Test.YteoeeiinngpogaaV8
namespace Go.Proofs.Yteoeeiinngpogaa
open Go.RowKit Go.Mem Go.Cells
variable {W w : World} {H : List HProp}
def joinG (l : List C) (k x : Int) : List C × Int :=
  if ¬ mayC x ∨ k < 0 ∨ (l.length : Int) ≤ k then (l, 2)
  else
    match l[k.toNat]? with
    | none => (l, 2)
    | some c =>
      let j := if c.w = 2 then k.toNat - 1 else k.toNat
      match l[j]? with
      | none => (l, 2)
      | some d => if 4 ≤ d.comb.length then (l, 8) else (l.set j { d with comb := d.comb ++ [x] }, 0)
attribute [local irreducible] World.setCell World.setCells World.alloc World.drew World.drewN Calls sat cel own blk old wpQuiet wpList cmb cmb1 rwP cls rws partC md
theorem clip49 {a : Option Addr} {n p : Nat} {xs : List Value} (hs : sat W (own 21 1 (.slice a n p) n xs :: H) w) : Calls Try.prog 49 #[.slice a n p] w fun e w' => e = .returned (.slice a n n) ∧ sat W (own 21 1 (.slice a n p) n xs :: H) w' := by
  rcases hs.own_cases.2 with ⟨e, rfl, _⟩ | ⟨g, cap, cur, e, h1, h2, _⟩
  · cases e
    go_enter Try.func49, Try.ntmps49
    go_wp2_with fail
    go_ret
    exact ⟨rfl, hs⟩
  · cases e
    unfold maxLen at h2
    go_enter Try.func49, Try.ntmps49
    go_wp2_with fail
    go_ret
    exact ⟨rfl, hs⟩
theorem join23_no {b n : Nat} {l : List C} {k x : Int} (hn : l.length = n) (h0 : 0 < n) (h : ¬ mayC x ∨ k < 0 ∨ (n : Int) ≤ k) (hs : sat W (rwP 55 b l :: H) w) : Calls Try.prog 23 #[.pointer (some ⟨b, 0, none⟩), .int .i64 k, .int .i32 x] w fun e w' => e = .returned (.int .i64 2) ∧ sat W (rwP 55 b l :: H) w' := by
  have HN0 := Lib.hid hn
  clear hn
  by_cases hm : mayC x
  · have HMY : Hid (decide (mayC x) = true) := Lib.hid (decide_eq_true hm)
    by_cases h1 : k < 0
    · clear h hm
      go_enter Try.func23, Try.ntmps23
      go_wp2_with (first | (go_at_call 40; refine (ready40 HN0.out h0 (by apply sk_from (hs := hs); repeat constructor)).mono ?_; clear hs; rintro e w ⟨rfl, hs⟩) | (go_at_call 48; refine (mayPut48 hs).mono ?_; clear hs; rintro e w ⟨rfl, hs⟩; rw [HMY.out]) | ((with_reducible refine isl ?_); first | ((with_reducible apply ld hs.b0); exact rfl; exact rfl; exact rfl; exact rfl; kernel_rfl) | ((with_reducible apply ld hs.b1); exact rfl; exact rfl; exact rfl; exact rfl; kernel_rfl) | ((with_reducible apply st hs.b0); exact rfl; exact rfl; exact rfl; exact rfl; exact rfl; exact rfl; kernel_rfl; exact rfl; clear hs; intro w hs) | ((with_reducible apply st hs.b1); exact rfl; exact rfl; exact rfl; exact rfl; exact rfl; exact rfl; kernel_rfl; exact rfl; clear hs; intro w hs) | ((with_reducible apply stc hs.b0); exact rfl; exact rfl; exact rfl; exact rfl; exact rfl; kernel_rfl; exact rfl; clear hs; intro w hs) | ((with_reducible apply stc hs.b1); exact rfl; exact rfl; exact rfl; exact rfl; exact rfl; kernel_rfl; exact rfl; clear hs; intro w hs) | ((with_reducible refine wrap hs ?_); clear hs; intro w hs) | ((with_reducible refine wrapn hs ?_); clear hs; intro w hs) | ((with_reducible refine wrapd hs ?_); clear hs; intro w hs)))
      go_ret
      exact ⟨rfl, hs⟩
    · have g1 : decide (k < 0) = false := decide_eq_false h1
      have h2 : (n : Int) ≤ k := by rcases h with h | h | h; exact absurd hm h; exact absurd h h1; exact h
      clear h hm
      go_enter Try.func23, Try.ntmps23
      go_wp2_with (first | (go_at_call 40; refine (ready40 HN0.out h0 (by apply sk_from (hs := hs); repeat constructor)).mono ?_; clear hs; rintro e w ⟨rfl, hs⟩) | (go_at_call 48; refine (mayPut48 hs).mono ?_; clear hs; rintro e w ⟨rfl, hs⟩; rw [HMY.out]; obtain ⟨ps, a9, p9, hps, hs⟩ := rw_open HN0.out hs; have HP : Hid (ps.length = n ∧ ps.map (·.c) = l) := Lib.hid ⟨by rw [← HN0.out, ← hps, List.length_map], hps⟩; clear hps) | ((with_reducible refine isl ?_); first | ((with_reducible apply ld hs.b0); exact rfl; exact rfl; exact rfl; exact rfl; kernel_rfl) | ((with_reducible apply ld hs.b1); exact rfl; exact rfl; exact rfl; exact rfl; kernel_rfl) | ((with_reducible apply st hs.b0); exact rfl; exact rfl; exact rfl; exact rfl; exact rfl; exact rfl; kernel_rfl; exact rfl; clear hs; intro w hs) | ((with_reducible apply st hs.b1); exact rfl; exact rfl; exact rfl; exact rfl; exact rfl; exact rfl; kernel_rfl; exact rfl; clear hs; intro w hs) | ((with_reducible apply stc hs.b0); exact rfl; exact rfl; exact rfl; exact rfl; exact rfl; kernel_rfl; exact rfl; clear hs; intro w hs) | ((with_reducible apply stc hs.b1); exact rfl; exact rfl; exact rfl; exact rfl; exact rfl; kernel_rfl; exact rfl; clear hs; intro w hs) | ((with_reducible refine wrap hs ?_); clear hs; intro w hs) | ((with_reducible refine wrapn hs ?_); clear hs; intro w hs) | ((with_reducible refine wrapd hs ?_); clear hs; intro w hs)))
      go_ret
      exact ⟨rfl, by have hs := (show sat W (rwP 55 b l :: H) w from by have h6 := rw_close HP.out.1 (by refine sb_from ?_ hs; repeat constructor : sat W (cel b 55 [.slice a9 n p9] :: own 41 6 (.slice a9 n p9) n (rws ps).flatten :: cmb ps :: H) w); rw [HP.out.2] at h6; exact h6); exact hs⟩
  · have HMY : Hid (decide (mayC x) = false) := Lib.hid (decide_eq_false hm)
    clear h hm
    go_enter Try.func23, Try.ntmps23
    go_wp2_with (first | (go_at_call 40; refine (ready40 HN0.out h0 (by apply sk_from (hs := hs); repeat constructor)).mono ?_; clear hs; rintro e w ⟨rfl, hs⟩) | (go_at_call 48; refine (mayPut48 hs).mono ?_; clear hs; rintro e w ⟨rfl, hs⟩; rw [HMY.out]) | ((with_reducible refine isl ?_); first | ((with_reducible apply ld hs.b0); exact rfl; exact rfl; exact rfl; exact rfl; kernel_rfl) | ((with_reducible apply ld hs.b1); exact rfl; exact rfl; exact rfl; exact rfl; kernel_rfl) | ((with_reducible apply st hs.b0); exact rfl; exact rfl; exact rfl; exact rfl; exact rfl; exact rfl; kernel_rfl; exact rfl; clear hs; intro w hs) | ((with_reducible apply st hs.b1); exact rfl; exact rfl; exact rfl; exact rfl; exact rfl; exact rfl; kernel_rfl; exact rfl; clear hs; intro w hs) | ((with_reducible apply stc hs.b0); exact rfl; exact rfl; exact rfl; exact rfl; exact rfl; kernel_rfl; exact rfl; clear hs; intro w hs) | ((with_reducible apply stc hs.b1); exact rfl; exact rfl; exact rfl; exact rfl; exact rfl; kernel_rfl; exact rfl; clear hs; intro w hs) | ((with_reducible refine wrap hs ?_); clear hs; intro w hs) | ((with_reducible refine wrapn hs ?_); clear hs; intro w hs) | ((with_reducible refine wrapd hs ?_); clear hs; intro w hs)))
    go_ret
    exact ⟨rfl, hs⟩
/-- Behind the choice of the cell. -/
theorem join23_at {b n k j : Nat} {l : List C} {x : Int} {c d : C} (hn : l.length = n) (h512 : n ≤ 1000) (hm : mayC x) (hc : l[k]? = some c) (hd : l[j]? = some d) (hj : j = if c.w = 2 then k - 1 else k) (hk0 : c.w = 2 → 0 < k) (h4 : d.comb.length ≤ 4) (hs : sat W (rwP 55 b l :: H) w) :
    Calls Try.prog 23 #[.pointer (some ⟨b, 0, none⟩), .int .i64 (k : Int), .int .i32 x] w fun e w' => e = .returned (.int .i64 (joinG l k x).2) ∧ sat W (rwP 55 b (joinG l k x).1 :: H) w' := by
  have hkn : k < n := by rw [← hn]; exact (List.getElem?_eq_some_iff.1 hc).1
  have hjn : j < n := by rw [← hn]; exact (List.getElem?_eq_some_iff.1 hd).1
  have h0 : 0 < n := by omega
  have HMY : Hid (decide (mayC x) = true) := Lib.hid (decide_eq_true hm)
  have HN0 := Lib.hid hn
  have e1 : joinG l k x = if 4 ≤ d.comb.length then (l, 8) else (l.set j { d with comb := d.comb ++ [x] }, 0) := by
    unfold joinG
    rw [if_neg (by rintro (h | h | h); exact h hm; omega; omega), Int.toNat_natCast, hc]
    simp only
    rw [← hj, hd]
  have HE := Lib.hid e1
  have g1 : decide ((k : Int) < 0) = false := decide_eq_false (by omega)
  have g3 : (k : Int) < (n : Int) := by omega
  have g4 : (0 : Int) ≤ (k : Int) := by omega
  have HD := Lib.hid hd
  have HCC := Lib.hid hc
  have HJ := Lib.hid hj
  have HK0 := Lib.hid hk0
  obtain ⟨nc, hnc⟩ : ∃ nc, d.comb.length = nc := ⟨_, rfl⟩
  have HNC := Lib.hid hnc
  rw [hnc] at h4 e1
  clear e1 hm hn hd hj hk0 hnc
  go_enter Try.func23, Try.ntmps23
  go_upto_region 5 with (first | (go_at_call 40; refine (ready40 HN0.out h0 (by apply sk_from (hs := hs); repeat constructor)).mono ?_; clear hs; rintro e w ⟨rfl, hs⟩) | (go_at_call 48; refine (mayPut48 hs).mono ?_; clear hs; rintro e w ⟨rfl, hs⟩; rw [HMY.out]; obtain ⟨ps, a9, p9, hps, hs⟩ := rw_open HN0.out hs; have HP : Hid (ps.length = n ∧ ps.map (·.c) = l) := Lib.hid ⟨by rw [← HN0.out, ← hps, List.length_map], hps⟩; clear hps) | ((with_reducible refine isl ?_); first | ((with_reducible apply ld hs.b0); exact rfl; exact rfl; exact rfl; exact rfl; kernel_rfl) | ((with_reducible apply ld hs.b1); exact rfl; exact rfl; exact rfl; exact rfl; kernel_rfl) | ((with_reducible apply st hs.b0); exact rfl; exact rfl; exact rfl; exact rfl; exact rfl; exact rfl; kernel_rfl; exact rfl; clear hs; intro w hs) | ((with_reducible apply st hs.b1); exact rfl; exact rfl; exact rfl; exact rfl; exact rfl; exact rfl; kernel_rfl; exact rfl; clear hs; intro w hs) | ((with_reducible apply stc hs.b0); exact rfl; exact rfl; exact rfl; exact rfl; exact rfl; kernel_rfl; exact rfl; clear hs; intro w hs) | ((with_reducible apply stc hs.b1); exact rfl; exact rfl; exact rfl; exact rfl; exact rfl; kernel_rfl; exact rfl; clear hs; intro w hs) | ((with_reducible refine wrap hs ?_); clear hs; intro w hs) | ((with_reducible refine wrapn hs ?_); clear hs; intro w hs) | ((with_reducible refine wrapd hs ?_); clear hs; intro w hs)))
  obtain ⟨g, rfl⟩ := own_ptr h0 hs.b1
  obtain ⟨y, hy⟩ : ∃ y, ps[k]? = some y := ⟨_, List.getElem?_eq_getElem (by rw [HP.out.1]; exact hkn)⟩
  obtain ⟨z, hz⟩ : ∃ z, ps[j]? = some z := ⟨_, List.getElem?_eq_getElem (by rw [HP.out.1]; exact hjn)⟩
  have hyc : y.c = c := by have h := HCC.out; rw [← HP.out.2, List.getElem?_map, hy] at h; exact Option.some.inj h
  have hzc : z.c = d := by have h := HD.out; rw [← HP.out.2, List.getElem?_map, hz] at h; exact Option.some.inj h
  subst hyc hzc
  have HY := Lib.hid (rws_get hy)
  have HZ := Lib.hid (rws_get hz)
  have HZ2 := Lib.hid hz
  clear hy hz hc
  go_upto_if 37 with (first | (first | ((with_reducible apply ldof hs.b0); exact rfl; exact rfl; exact rfl; exact HY.out; exact rws6 _; exact rfl; exact one5) | ((with_reducible apply ldof hs.b1); exact rfl; exact rfl; exact rfl; exact HY.out; exact rws6 _; exact rfl; exact one5) | ((with_reducible apply ldof hs.b2); exact rfl; exact rfl; exact rfl; exact HY.out; exact rws6 _; exact rfl; exact one5)) | ((with_reducible refine isl ?_); first | ((with_reducible apply ld hs.b0); exact rfl; exact rfl; exact rfl; exact rfl; kernel_rfl) | ((with_reducible apply ld hs.b1); exact rfl; exact rfl; exact rfl; exact rfl; kernel_rfl) | ((with_reducible apply st hs.b0); exact rfl; exact rfl; exact rfl; exact rfl; exact rfl; exact rfl; kernel_rfl; exact rfl; clear hs; intro w hs) | ((with_reducible apply st hs.b1); exact rfl; exact rfl; exact rfl; exact rfl; exact rfl; exact rfl; kernel_rfl; exact rfl; clear hs; intro w hs) | ((with_reducible apply stc hs.b0); exact rfl; exact rfl; exact rfl; exact rfl; exact rfl; kernel_rfl; exact rfl; clear hs; intro w hs) | ((with_reducible apply stc hs.b1); exact rfl; exact rfl; exact rfl; exact rfl; exact rfl; kernel_rfl; exact rfl; clear hs; intro w hs) | ((with_reducible refine wrap hs ?_); clear hs; intro w hs) | ((with_reducible refine wrapn hs ?_); clear hs; intro w hs) | ((with_reducible refine wrapd hs ?_); clear hs; intro w hs)))
  go_cut [1] (fun v wx => v = .int .i64 (j : Int) ∧ sat W (cel b 55 [.slice (some ⟨g, 0, none⟩) n p9] :: own 41 6 (.slice (some ⟨g, 0, none⟩) n p9) n (rws ps).flatten :: cmb ps :: H) wx)
  case first =>
    by_cases hw : y.c.w = 2
    · have q1 : (y.c.w == 2) = true := by rw [beq_iff_eq]; exact hw
      have q2 : decide (y.c.w = 2) = true := decide_eq_true hw
      have hj2 : (j : Int) = (k : Int) - 1 := by have h := HJ.out; rw [if_pos hw] at h; have := HK0.out hw; omega
      have HJ2 := Lib.hid hj2
      clear hw hj2
      go_wp2_with fail
      go_meet
      case rel => exact ⟨by rw [HJ2.out], by refine sb_from ?_ hs; repeat constructor⟩
    · have q1 : (y.c.w == 2) = false := beq_eq_false_iff_ne.2 hw
      have q2 : decide (y.c.w = 2) = false := decide_eq_false hw
      have hj2 : (j : Int) = (k : Int) := by have h := HJ.out; rw [if_neg hw] at h; omega
      have HJ2 := Lib.hid hj2
      clear hj2
      go_wp2_with fail
      go_meet
      case rel => exact ⟨by rw [HJ2.out], by refine sb_from ?_ hs; repeat constructor⟩
  case rest =>
    clear hs
    obtain ⟨rfl, hs⟩ := hcut
    have g5 : (j : Int) < (n : Int) := by omega
    have g6 : (0 : Int) ≤ (j : Int) := by omega
    obtain ⟨⟨rz, cb, wz, az⟩, za, zp⟩ := z
    simp only at HNC HE HD
    have HNC2 : Hid (cb.length = nc) := HNC
    simp only [pcV, pcS] at HZ
    rw [HNC2.out] at HZ
    by_cases h8 : 4 ≤ nc
    · have HR : Hid (joinG l k x = (l, 8)) := Lib.hid (by rw [HE.out, if_pos (by rw [HNC2.out]; exact h8)])
      go_wp2_with (first | (first | ((with_reducible apply ldof hs.b0); exact rfl; exact rfl; exact rfl; exact HZ.out; exact rws6 _; exact rfl; exact one39) | ((with_reducible apply ldof hs.b1); exact rfl; exact rfl; exact rfl; exact HZ.out; exact rws6 _; exact rfl; exact one39) | ((with_reducible apply ldof hs.b2); exact rfl; exact rfl; exact rfl; exact HZ.out; exact rws6 _; exact rfl; exact one39) | ((with_reducible apply ldof hs.b3); exact rfl; exact rfl; exact rfl; exact HZ.out; exact rws6 _; exact rfl; exact one39) | ((with_reducible apply ldof hs.b4); exact rfl; exact rfl; exact rfl; exact HZ.out; exact rws6 _; exact rfl; exact one39) | ((with_reducible apply ldof hs.b5); exact rfl; exact rfl; exact rfl; exact HZ.out; exact rws6 _; exact rfl; exact one39)) | ((with_reducible refine isl ?_); first | ((with_reducible apply ld hs.b0); exact rfl; exact rfl; exact rfl; exact rfl; kernel_rfl) | ((with_reducible apply ld hs.b1); exact rfl; exact rfl; exact rfl; exact rfl; kernel_rfl) | ((with_reducible apply st hs.b0); exact rfl; exact rfl; exact rfl; exact rfl; exact rfl; exact rfl; kernel_rfl; exact rfl; clear hs; intro w hs) | ((with_reducible apply st hs.b1); exact rfl; exact rfl; exact rfl; exact rfl; exact rfl; exact rfl; kernel_rfl; exact rfl; clear hs; intro w hs) | ((with_reducible apply stc hs.b0); exact rfl; exact rfl; exact rfl; exact rfl; exact rfl; kernel_rfl; exact rfl; clear hs; intro w hs) | ((with_reducible apply stc hs.b1); exact rfl; exact rfl; exact rfl; exact rfl; exact rfl; kernel_rfl; exact rfl; clear hs; intro w hs) | ((with_reducible refine wrap hs ?_); clear hs; intro w hs) | ((with_reducible refine wrapn hs ?_); clear hs; intro w hs) | ((with_reducible refine wrapd hs ?_); clear hs; intro w hs)))
      go_ret
      refine ⟨by rw [HR.out]; rfl, ?_⟩
      rw [HR.out]
      have h6 := rw_close HP.out.1 hs
      rw [HP.out.2] at h6
      exact h6
    · have HR : Hid (joinG l k x = (l.set j ⟨rz, cb ++ [x], wz, az⟩, 0)) := Lib.hid (by rw [HE.out, if_neg (by rw [HNC2.out]; exact h8)])
      go_upto_region 10 with (first | (first | ((with_reducible apply ldof hs.b0); exact rfl; exact rfl; exact rfl; exact HZ.out; exact rws6 _; exact rfl; exact one39) | ((with_reducible apply ldof hs.b1); exact rfl; exact rfl; exact rfl; exact HZ.out; exact rws6 _; exact rfl; exact one39) | ((with_reducible apply ldof hs.b2); exact rfl; exact rfl; exact rfl; exact HZ.out; exact rws6 _; exact rfl; exact one39) | ((with_reducible apply ldof hs.b3); exact rfl; exact rfl; exact rfl; exact HZ.out; exact rws6 _; exact rfl; exact one39) | ((with_reducible apply ldof hs.b4); exact rfl; exact rfl; exact rfl; exact HZ.out; exact rws6 _; exact rfl; exact one39) | ((with_reducible apply ldof hs.b5); exact rfl; exact rfl; exact rfl; exact HZ.out; exact rws6 _; exact rfl; exact one39)) | ((with_reducible refine isl ?_); first | ((with_reducible apply ld hs.b0); exact rfl; exact rfl; exact rfl; exact rfl; kernel_rfl) | ((with_reducible apply ld hs.b1); exact rfl; exact rfl; exact rfl; exact rfl; kernel_rfl) | ((with_reducible apply st hs.b0); exact rfl; exact rfl; exact rfl; exact rfl; exact rfl; exact rfl; kernel_rfl; exact rfl; clear hs; intro w hs) | ((with_reducible apply st hs.b1); exact rfl; exact rfl; exact rfl; exact rfl; exact rfl; exact rfl; kernel_rfl; exact rfl; clear hs; intro w hs) | ((with_reducible apply stc hs.b0); exact rfl; exact rfl; exact rfl; exact rfl; exact rfl; kernel_rfl; exact rfl; clear hs; intro w hs) | ((with_reducible apply stc hs.b1); exact rfl; exact rfl; exact rfl; exact rfl; exact rfl; kernel_rfl; exact rfl; clear hs; intro w hs) | ((with_reducible refine wrap hs ?_); clear hs; intro w hs) | ((with_reducible refine wrapn hs ?_); clear hs; intro w hs) | ((with_reducible refine wrapd hs ?_); clear hs; intro w hs)))
      have hs : sat W (own 21 1 (.slice za nc zp) nc (runes cb) :: cmb (ps.take j) :: cmb (ps.drop (j + 1)) :: cel b 55 [.slice (some ⟨g, 0, none⟩) n p9] :: own 41 6 (.slice (some ⟨g, 0, none⟩) n p9) n (rws ps).flatten :: H) wc := by
        have h6 : sat W (cmb ps :: cel b 55 [.slice (some ⟨g, 0, none⟩) n p9] :: own 41 6 (.slice (some ⟨g, 0, none⟩) n p9) n (rws ps).flatten :: H) wc := by refine sb_from ?_ hs; repeat constructor
        have h7 := cmb_at HZ2.out h6
        unfold cmb1 at h7
        simp only [pcS, HNC2.out] at h7
        exact h7
      have HS : Hid (∀ a' p', (rws ps).set j ((cV ⟨rz, cb, wz, az⟩ (.slice za nc zp)).set 1 (.slice a' (nc + 1) p')) = rws (ps.set j ⟨⟨rz, cb ++ [x], wz, az⟩, a', p'⟩)) := Lib.hid fun a' p' => by
        have e : pcV ⟨⟨rz, cb ++ [x], wz, az⟩, a', p'⟩ = (cV ⟨rz, cb, wz, az⟩ (.slice za nc zp)).set 1 (.slice a' (nc + 1) p') := by simp [pcS, HNC2.out]
        rw [← rws_set, e]
      go_wp2_with (first | (go_at_call 49; refine (clip49 (by apply sk_from (hs := hs); repeat constructor)).mono ?_; clear hs; rintro e w ⟨rfl, hs⟩) | (first | ((with_reducible apply ldof hs.b0); exact rfl; exact rfl; exact rfl; exact HZ.out; exact rws6 _; exact rfl; exact one39) | ((with_reducible apply ldof hs.b1); exact rfl; exact rfl; exact rfl; exact HZ.out; exact rws6 _; exact rfl; exact one39) | ((with_reducible apply ldof hs.b2); exact rfl; exact rfl; exact rfl; exact HZ.out; exact rws6 _; exact rfl; exact one39) | ((with_reducible apply ldof hs.b3); exact rfl; exact rfl; exact rfl; exact HZ.out; exact rws6 _; exact rfl; exact one39) | ((with_reducible apply ldof hs.b4); exact rfl; exact rfl; exact rfl; exact HZ.out; exact rws6 _; exact rfl; exact one39) | ((with_reducible apply ldof hs.b5); exact rfl; exact rfl; exact rfl; exact HZ.out; exact rws6 _; exact rfl; exact one39)) | (first | ((with_reducible apply appclip (a0 := za) (n := nc) (c := zp) (e := 21) (size := 1) (xs := runes cb) (T' := 21) (by (apply sk_from (hs := hs)); repeat constructor)); exact rfl; exact rfl; exact rfl; exact rfl; exact slty39; exact rfl; decide; omega; (unfold maxLen; omega); clear hs; intro a5 c5 w hs; rw [runes_snoc] at hs)) | (first | ((with_reducible apply stof hs.b0); exact rfl; exact rfl; exact rfl; exact rfl; exact rfl; exact HZ.out; exact rws6 _; exact rfl; exact one39; exact rfl; clear hs; intro w hs; rw [HS.out] at hs) | ((with_reducible apply stof hs.b1); exact rfl; exact rfl; exact rfl; exact rfl; exact rfl; exact HZ.out; exact rws6 _; exact rfl; exact one39; exact rfl; clear hs; intro w hs; rw [HS.out] at hs) | ((with_reducible apply stof hs.b2); exact rfl; exact rfl; exact rfl; exact rfl; exact rfl; exact HZ.out; exact rws6 _; exact rfl; exact one39; exact rfl; clear hs; intro w hs; rw [HS.out] at hs) | ((with_reducible apply stof hs.b3); exact rfl; exact rfl; exact rfl; exact rfl; exact rfl; exact HZ.out; exact rws6 _; exact rfl; exact one39; exact rfl; clear hs; intro w hs; rw [HS.out] at hs) | ((with_reducible apply stof hs.b4); exact rfl; exact rfl; exact rfl; exact rfl; exact rfl; exact HZ.out; exact rws6 _; exact rfl; exact one39; exact rfl; clear hs; intro w hs; rw [HS.out] at hs) | ((with_reducible apply stof hs.b5); exact rfl; exact rfl; exact rfl; exact rfl; exact rfl; exact HZ.out; exact rws6 _; exact rfl; exact one39; exact rfl; clear hs; intro w hs; rw [HS.out] at hs)) | ((with_reducible refine isl ?_); first | ((with_reducible apply ld hs.b0); exact rfl; exact rfl; exact rfl; exact rfl; kernel_rfl) | ((with_reducible apply ld hs.b1); exact rfl; exact rfl; exact rfl; exact rfl; kernel_rfl) | ((with_reducible apply ld hs.b2); exact rfl; exact rfl; exact rfl; exact rfl; kernel_rfl) | ((with_reducible apply ld hs.b3); exact rfl; exact rfl; exact rfl; exact rfl; kernel_rfl) | ((with_reducible apply ld hs.b4); exact rfl; exact rfl; exact rfl; exact rfl; kernel_rfl) | ((with_reducible apply st hs.b0); exact rfl; exact rfl; exact rfl; exact rfl; exact rfl; exact rfl; kernel_rfl; exact rfl; clear hs; intro w hs) | ((with_reducible apply st hs.b1); exact rfl; exact rfl; exact rfl; exact rfl; exact rfl; exact rfl; kernel_rfl; exact rfl; clear hs; intro w hs) | ((with_reducible apply st hs.b2); exact rfl; exact rfl; exact rfl; exact rfl; exact rfl; exact rfl; kernel_rfl; exact rfl; clear hs; intro w hs) | ((with_reducible apply st hs.b3); exact rfl; exact rfl; exact rfl; exact rfl; exact rfl; exact rfl; kernel_rfl; exact rfl; clear hs; intro w hs) | ((with_reducible apply st hs.b4); exact rfl; exact rfl; exact rfl; exact rfl; exact rfl; exact rfl; kernel_rfl; exact rfl; clear hs; intro w hs) | ((with_reducible apply stc hs.b0); exact rfl; exact rfl; exact rfl; exact rfl; exact rfl; kernel_rfl; exact rfl; clear hs; intro w hs) | ((with_reducible apply stc hs.b1); exact rfl; exact rfl; exact rfl; exact rfl; exact rfl; kernel_rfl; exact rfl; clear hs; intro w hs) | ((with_reducible apply stc hs.b2); exact rfl; exact rfl; exact rfl; exact rfl; exact rfl; kernel_rfl; exact rfl; clear hs; intro w hs) | ((with_reducible apply stc hs.b3); exact rfl; exact rfl; exact rfl; exact rfl; exact rfl; kernel_rfl; exact rfl; clear hs; intro w hs) | ((with_reducible apply stc hs.b4); exact rfl; exact rfl; exact rfl; exact rfl; exact rfl; kernel_rfl; exact rfl; clear hs; intro w hs) | ((with_reducible refine wrap hs ?_); clear hs; intro w hs) | ((with_reducible refine wrapn hs ?_); clear hs; intro w hs) | ((with_reducible refine wrapd hs ?_); clear hs; intro w hs)))
      go_ret
      refine ⟨by rw [HR.out]; rfl, ?_⟩
      rw [HR.out]
      have hl : (cb ++ [x]).length = nc + 1 := by rw [List.length_append, HNC2.out]; rfl
      have h6 : sat W (cmb1 ⟨⟨rz, cb ++ [x], wz, az⟩, some ⟨a5, 0, none⟩, c5⟩ :: cmb (ps.take j) :: cmb (ps.drop (j + 1)) :: own 41 6 (.slice (some ⟨g, 0, none⟩) n p9) n (rws (ps.set j ⟨⟨rz, cb ++ [x], wz, az⟩, some ⟨a5, 0, none⟩, c5⟩)).flatten :: cel b 55 [.slice (some ⟨g, 0, none⟩) n p9] :: H) w := by
        unfold cmb1
        simp only [pcS, hl]
        refine sb_from ?_ hs; repeat constructor
      have h7 := cmb_put (l := ps) (i := j) (by rw [HP.out.1]; exact hjn) h6
      have h8 := rw_close (ps := ps.set j ⟨⟨rz, cb ++ [x], wz, az⟩, some ⟨a5, 0, none⟩, c5⟩) (T := 55) (b := b) (n := n) (a := some ⟨g, 0, none⟩) (p := p9) (by rw [List.length_set]; exact HP.out.1) (by refine sb_from ?_ h7; repeat constructor)
      simp only [List.map_set, HP.out.2] at h8
      exact h8
theorem join23 {b n : Nat} {l : List C} {k x : Int} (hn : l.length = n) (h0 : 0 < n) (h512 : n ≤ 1000) (h4 : ∀ c ∈ l, c.comb.length ≤ 4) (hk0 : ∀ c, l[0]? = some c → c.w ≠ 2) (hs : sat W (rwP 55 b l :: H) w) :
    Calls Try.prog 23 #[.pointer (some ⟨b, 0, none⟩), .int .i64 k, .int .i32 x] w fun e w' => e = .returned (.int .i64 (joinG l k x).2) ∧ sat W (rwP 55 b (joinG l k x).1 :: H) w' := by
  by_cases h : ¬ mayC x ∨ k < 0 ∨ (n : Int) ≤ k
  · have e : joinG l k x = (l, 2) := by unfold joinG; rw [if_pos (by rw [hn]; exact h)]
    rw [e]
    exact join23_no hn h0 h hs
  · have hm : mayC x := by
      by_cases hm : mayC x
      · exact hm
      · exact absurd (.inl hm) h
    obtain ⟨j, rfl⟩ : ∃ j : Nat, k = (j : Int) := ⟨k.toNat, by omega⟩
    obtain ⟨c, hc⟩ : ∃ c, l[j]? = some c := ⟨_, List.getElem?_eq_getElem (by rw [hn]; omega)⟩
    have hw : c.w = 2 → 0 < j := fun hw => by
      rcases Nat.eq_zero_or_pos j with h1 | h1
      · subst h1; exact absurd hw (hk0 c hc)
      · exact h1
    obtain ⟨d, hd⟩ : ∃ d, l[if c.w = 2 then j - 1 else j]? = some d := ⟨_, List.getElem?_eq_getElem (by rw [hn]; split <;> omega)⟩
    exact join23_at hn h512 hm hc hd rfl hw (h4 d (List.mem_of_getElem? hd)) hs
def resG (l : List C) (cols : Nat) : List C := md 0 (if cols ≤ l.length then l.take cols else l ++ List.replicate (cols - l.length) (bC At.z))
theorem resize26_no {b n : Nat} {l : List C} {k : Int} (hn : l.length = n) (h0 : 0 < n) (h : ¬ (1 ≤ k ∧ k ≤ 512)) (hs : sat W (rwP 55 b l :: H) w) : Calls Try.prog 26 #[.pointer (some ⟨b, 0, none⟩), .int .i64 k] w fun e w' => e = .returned (.int .i64 2) ∧ sat W (rwP 55 b l :: H) w' := by
  have HN0 := Lib.hid hn
  have HD := Lib.hid (show decide (1 ≤ k ∧ k ≤ 512) = false from decide_eq_false h)
  clear hn h
  go_enter Try.func26, Try.ntmps26
  go_wp2_with (first | (go_at_call 40; refine (ready40 HN0.out h0 (by apply sk_from (hs := hs); repeat constructor)).mono ?_; clear hs; rintro e w ⟨rfl, hs⟩) | (go_at_call 28; refine (mayCols28 hs).mono ?_; clear hs; rintro e w ⟨rfl, hs⟩; rw [HD.out]) | ((with_reducible refine isl ?_); first | ((with_reducible apply ld hs.b0); exact rfl; exact rfl; exact rfl; exact rfl; kernel_rfl) | ((with_reducible apply ld hs.b1); exact rfl; exact rfl; exact rfl; exact rfl; kernel_rfl) | ((with_reducible apply st hs.b0); exact rfl; exact rfl; exact rfl; exact rfl; exact rfl; exact rfl; kernel_rfl; exact rfl; clear hs; intro w hs) | ((with_reducible apply st hs.b1); exact rfl; exact rfl; exact rfl; exact rfl; exact rfl; exact rfl; kernel_rfl; exact rfl; clear hs; intro w hs) | ((with_reducible apply stc hs.b0); exact rfl; exact rfl; exact rfl; exact rfl; exact rfl; kernel_rfl; exact rfl; clear hs; intro w hs) | ((with_reducible apply stc hs.b1); exact rfl; exact rfl; exact rfl; exact rfl; exact rfl; kernel_rfl; exact rfl; clear hs; intro w hs) | ((with_reducible refine wrap hs ?_); clear hs; intro w hs) | ((with_reducible refine wrapn hs ?_); clear hs; intro w hs) | ((with_reducible refine wrapd hs ?_); clear hs; intro w hs)))
  go_ret
  exact ⟨rfl, hs⟩
def lenAt (b : Nat) (w : World) : Nat := match w.cell? ⟨b, 0, none⟩ with | some (.slice _ n _) => n | _ => 0
theorem lenAt_is {b T n p : Nat} {a : Option Addr} (hs : sat W (cel b T [.slice a n p] :: H) w) : lenAt b w = n := by
  unfold lenAt
  rw [hs.cel_cell (i := 0) rfl]
theorem resize26_ok {b n m : Nat} {l : List C} (hn : l.length = n) (h0 : 0 < n) (h512 : n ≤ 512) (hm0 : 1 ≤ m) (hm : m ≤ 512) (hs : sat W (rwP 55 b l :: H) w) : Calls Try.prog 26 #[.pointer (some ⟨b, 0, none⟩), .int .i64 (m : Int)] w fun e w' => e = .returned (.int .i64 0) ∧ sat W (rwP 55 b (resG l m) :: H) w' := by
  have HN0 := Lib.hid hn
  have HD := Lib.hid (show decide (1 ≤ (m : Int) ∧ (m : Int) ≤ 512) = true from decide_eq_true (by omega))
  clear hn
  go_enter Try.func26, Try.ntmps26
  go_wp2_with (first | (go_at_call 40; refine (ready40 HN0.out h0 (by apply sk_from (hs := hs); repeat constructor)).mono ?_; clear hs; rintro e w ⟨rfl, hs⟩) | (go_at_call 28; refine (mayCols28 hs).mono ?_; clear hs; rintro e w ⟨rfl, hs⟩; rw [HD.out]) | ((with_reducible refine isl ?_); first | ((with_reducible apply ld hs.b0); exact rfl; exact rfl; exact rfl; exact rfl; kernel_rfl) | ((with_reducible apply ld hs.b1); exact rfl; exact rfl; exact rfl; exact rfl; kernel_rfl) | ((with_reducible apply st hs.b0); exact rfl; exact rfl; exact rfl; exact rfl; exact rfl; exact rfl; kernel_rfl; exact rfl; clear hs; intro w hs) | ((with_reducible apply st hs.b1); exact rfl; exact rfl; exact rfl; exact rfl; exact rfl; exact rfl; kernel_rfl; exact rfl; clear hs; intro w hs) | ((with_reducible apply stc hs.b0); exact rfl; exact rfl; exact rfl; exact rfl; exact rfl; kernel_rfl; exact rfl; clear hs; intro w hs) | ((with_reducible apply stc hs.b1); exact rfl; exact rfl; exact rfl; exact rfl; exact rfl; kernel_rfl; exact rfl; clear hs; intro w hs) | ((with_reducible refine wrap hs ?_); clear hs; intro w hs) | ((with_reducible refine wrapn hs ?_); clear hs; intro w hs) | ((with_reducible refine wrapd hs ?_); clear hs; intro w hs)))
  obtain ⟨ps, a9, p9, hps, hs⟩ := rw_open HN0.out hs
  have HP : Hid (ps.length = n ∧ ps.map (·.c) = l) := Lib.hid ⟨by rw [← HN0.out, ← hps, List.length_map], hps⟩
  clear hps
  go_loopw [] (fun wr => ∃ (k j : Nat) (a : Option Addr) (p : Nat), k = n + j ∧ (j = 0 ∨ k ≤ m) ∧ sat W (cel b 55 [.slice a k p] :: own 41 6 (.slice a k p) k (rws (ps ++ List.replicate j (PC.bl At.z))).flatten :: cmb ps :: H) wr) (fun wr => m - lenAt b wr)
  case atStart => exact ⟨n, 0, a9, p9, rfl, .inl rfl, by rw [List.replicate_zero, List.append_nil]; exact hs⟩
  case round =>
    clear hs a9 p9
    obtain ⟨k, j, a, p, hk, hj, hs⟩ := hrel
    have HK := Lib.hid hk
    have HLN : Hid (lenAt b wr = k) := Lib.hid (lenAt_is hs)
    have hk1 : 1 ≤ k := by omega
    clear hk
    by_cases hkm : k < m
    · have hkm2 : (k : Int) < (m : Int) := by omega
      have HS : Hid ((rws (ps ++ List.replicate j (PC.bl At.z))).flatten ++ cV (bC At.z) (.slice none 0 0) = (rws (ps ++ List.replicate (j + 1) (PC.bl At.z))).flatten) := Lib.hid (by
        rw [rws_app, List.flatten_append, List.append_assoc, rws_bl_snoc, ← List.flatten_append, ← rws_app])
      go_wp2_with (first | ((with_reducible refine isl ?_); first | ((with_reducible apply ld hs.b0); exact rfl; exact rfl; exact rfl; exact rfl; kernel_rfl) | ((with_reducible apply st hs.b0); exact rfl; exact rfl; exact rfl; exact rfl; exact rfl; exact rfl; kernel_rfl; exact rfl; clear hs; intro w hs) | ((with_reducible apply stc hs.b0); exact rfl; exact rfl; exact rfl; exact rfl; exact rfl; kernel_rfl; exact rfl; clear hs; intro w hs) | ((with_reducible refine wrap hs ?_); clear hs; intro w hs) | ((with_reducible refine wrapn hs ?_); clear hs; intro w hs) | ((with_reducible refine wrapd hs ?_); clear hs; intro w hs)))
      refine L_begin 11 11 [cel b 55 [.slice a k p]] [cel b 55 [.slice a k p]] hs (fun _ h => by (refine sb_from ?_ h; repeat constructor)) (fun _ h => by (refine sb_from ?_ h; repeat constructor)) (by kernel_rfl) ?_; clear hs; intro w hs hd
      refine L_reads2 [0, 1, 2, 3, 4, 5] #[true, true, true, true, true, true, false, false, false, false, false, false] (fuel := 6) hd (by kernel_rfl) (fun _ _ _ _ _ h => h) ?_; clear hd; intro X f hne hf hcl hd; simp only [nths, nth, List.append_nil, List.nil_append, List.cons_append]; (try simp only [Act.put, List.setIfInBounds_toArray, List.set_cons_succ, List.set_cons_zero]); (repeat ((first | ((with_reducible apply ldq (fun x => (hf x).b0)); exact rfl; exact rfl; exact rfl; exact rfl; kernel_rfl) | go_big_quiet_step (fail)); (try simp only [Act.put, List.setIfInBounds_toArray, List.set_cons_succ, List.set_cons_zero]))); refine wpQuiet_nil ?_; clear hcl hf hne f X
      refine L_each [6] (by kernel_rfl) ⟨?_, trivial⟩
      simp only [nth]
      go_wp2_with (first | (go_at_call 30; refine (blank30 (a := At.z) hs).mono ?_; clear hs; rintro e w ⟨rfl, hs⟩) | (first | ((with_reducible apply app (T' := 41) hs.b0); exact rfl; exact rfl; exact rfl; exact rfl; exact slty37; exact rfl; exact rfl; decide; omega; (unfold maxLen; omega); clear hs; intro a9 c9 w hs) | ((with_reducible apply app (T' := 41) hs.b1); exact rfl; exact rfl; exact rfl; exact rfl; exact slty37; exact rfl; exact rfl; decide; omega; (unfold maxLen; omega); clear hs; intro a9 c9 w hs) | ((with_reducible apply app (T' := 41) hs.b2); exact rfl; exact rfl; exact rfl; exact rfl; exact slty37; exact rfl; exact rfl; decide; omega; (unfold maxLen; omega); clear hs; intro a9 c9 w hs) | ((with_reducible apply app (T' := 41) hs.b3); exact rfl; exact rfl; exact rfl; exact rfl; exact slty37; exact rfl; exact rfl; decide; omega; (unfold maxLen; omega); clear hs; intro a9 c9 w hs)) | ((with_reducible refine isl ?_); first | ((with_reducible apply ld hs.b0); exact rfl; exact rfl; exact rfl; exact rfl; kernel_rfl) | ((with_reducible apply ld hs.b1); exact rfl; exact rfl; exact rfl; exact rfl; kernel_rfl) | ((with_reducible apply ld hs.b2); exact rfl; exact rfl; exact rfl; exact rfl; kernel_rfl) | ((with_reducible apply st hs.b0); exact rfl; exact rfl; exact rfl; exact rfl; exact rfl; exact rfl; kernel_rfl; exact rfl; clear hs; intro w hs) | ((with_reducible apply st hs.b1); exact rfl; exact rfl; exact rfl; exact rfl; exact rfl; exact rfl; kernel_rfl; exact rfl; clear hs; intro w hs) | ((with_reducible apply st hs.b2); exact rfl; exact rfl; exact rfl; exact rfl; exact rfl; exact rfl; kernel_rfl; exact rfl; clear hs; intro w hs) | ((with_reducible apply stc hs.b0); exact rfl; exact rfl; exact rfl; exact rfl; exact rfl; kernel_rfl; exact rfl; clear hs; intro w hs) | ((with_reducible apply stc hs.b1); exact rfl; exact rfl; exact rfl; exact rfl; exact rfl; kernel_rfl; exact rfl; clear hs; intro w hs) | ((with_reducible apply stc hs.b2); exact rfl; exact rfl; exact rfl; exact rfl; exact rfl; kernel_rfl; exact rfl; clear hs; intro w hs) | ((with_reducible refine wrap hs ?_); clear hs; intro w hs) | ((with_reducible refine wrapn hs ?_); clear hs; intro w hs) | ((with_reducible refine wrapd hs ?_); clear hs; intro w hs)))
      (first | refine on_now hs ?_ | refine on_now hs.drew ?_ | refine on_now hs.made ?_ | refine on_now hs.made.drew ?_ | refine on_now (hs.drewN _) ?_); clear hs; intro hs
      refine L_on [cel b 55 [.slice a k p]] [cel b 55 [.slice a k p]] #[true, true, true, true, true, true, true, false, false, false, false, false] (fuel := 5) hs (by kernel_rfl) (fun _ h => h) (fun _ h => h) (fun _ => by (refine sb_from ?_ hs; repeat constructor)) (fun _ => by (refine sb_from ?_ hs; repeat constructor)) ?_; clear hd hs; intro hd hs
      refine L_each [7] (by kernel_rfl) ⟨?_, trivial⟩
      simp only [nth]
      go_wp2_with (first | (go_at_call 30; refine (blank30 (a := At.z) hs).mono ?_; clear hs; rintro e w ⟨rfl, hs⟩) | (first | ((with_reducible apply app (T' := 41) hs.b0); exact rfl; exact rfl; exact rfl; exact rfl; exact slty37; exact rfl; exact rfl; decide; omega; (unfold maxLen; omega); clear hs; intro a9 c9 w hs) | ((with_reducible apply app (T' := 41) hs.b1); exact rfl; exact rfl; exact rfl; exact rfl; exact slty37; exact rfl; exact rfl; decide; omega; (unfold maxLen; omega); clear hs; intro a9 c9 w hs) | ((with_reducible apply app (T' := 41) hs.b2); exact rfl; exact rfl; exact rfl; exact rfl; exact slty37; exact rfl; exact rfl; decide; omega; (unfold maxLen; omega); clear hs; intro a9 c9 w hs) | ((with_reducible apply app (T' := 41) hs.b3); exact rfl; exact rfl; exact rfl; exact rfl; exact slty37; exact rfl; exact rfl; decide; omega; (unfold maxLen; omega); clear hs; intro a9 c9 w hs)) | ((with_reducible refine isl ?_); first | ((with_reducible apply ld hs.b0); exact rfl; exact rfl; exact rfl; exact rfl; kernel_rfl) | ((with_reducible apply ld hs.b1); exact rfl; exact rfl; exact rfl; exact rfl; kernel_rfl) | ((with_reducible apply ld hs.b2); exact rfl; exact rfl; exact rfl; exact rfl; kernel_rfl) | ((with_reducible apply st hs.b0); exact rfl; exact rfl; exact rfl; exact rfl; exact rfl; exact rfl; kernel_rfl; exact rfl; clear hs; intro w hs) | ((with_reducible apply st hs.b1); exact rfl; exact rfl; exact rfl; exact rfl; exact rfl; exact rfl; kernel_rfl; exact rfl; clear hs; intro w hs) | ((with_reducible apply st hs.b2); exact rfl; exact rfl; exact rfl; exact rfl; exact rfl; exact rfl; kernel_rfl; exact rfl; clear hs; intro w hs) | ((with_reducible apply stc hs.b0); exact rfl; exact rfl; exact rfl; exact rfl; exact rfl; kernel_rfl; exact rfl; clear hs; intro w hs) | ((with_reducible apply stc hs.b1); exact rfl; exact rfl; exact rfl; exact rfl; exact rfl; kernel_rfl; exact rfl; clear hs; intro w hs) | ((with_reducible apply stc hs.b2); exact rfl; exact rfl; exact rfl; exact rfl; exact rfl; kernel_rfl; exact rfl; clear hs; intro w hs) | ((with_reducible refine wrap hs ?_); clear hs; intro w hs) | ((with_reducible refine wrapn hs ?_); clear hs; intro w hs) | ((with_reducible refine wrapd hs ?_); clear hs; intro w hs)))
      (first | refine on_now hs ?_ | refine on_now hs.drew ?_ | refine on_now hs.made ?_ | refine on_now hs.made.drew ?_ | refine on_now (hs.drewN _) ?_); clear hs; intro hs
      refine L_on [cel b 55 [.slice a k p]] [cel b 55 [.slice a k p]] #[true, true, true, true, true, true, true, true, false, false, false, false] (fuel := 4) hs (by kernel_rfl) (fun _ h => h) (fun _ h => h) (fun _ => by (refine sb_from ?_ hs; repeat constructor)) (fun _ => by (refine sb_from ?_ hs; repeat constructor)) ?_; clear hd hs; intro hd hs; (try generalize World.alloc w _ = w1 at hs ⊢); (try generalize w.heap.size = z8 at hs ⊢)
      refine L_each [8] (by kernel_rfl) ⟨?_, trivial⟩
      simp only [nth]
      go_wp2_with (first | (go_at_call 30; refine (blank30 (a := At.z) hs).mono ?_; clear hs; rintro e w ⟨rfl, hs⟩) | (first | ((with_reducible apply app (T' := 41) hs.b0); exact rfl; exact rfl; exact rfl; exact rfl; exact slty37; exact rfl; exact rfl; decide; omega; (unfold maxLen; omega); clear hs; intro a9 c9 w hs) | ((with_reducible apply app (T' := 41) hs.b1); exact rfl; exact rfl; exact rfl; exact rfl; exact slty37; exact rfl; exact rfl; decide; omega; (unfold maxLen; omega); clear hs; intro a9 c9 w hs) | ((with_reducible apply app (T' := 41) hs.b2); exact rfl; exact rfl; exact rfl; exact rfl; exact slty37; exact rfl; exact rfl; decide; omega; (unfold maxLen; omega); clear hs; intro a9 c9 w hs) | ((with_reducible apply app (T' := 41) hs.b3); exact rfl; exact rfl; exact rfl; exact rfl; exact slty37; exact rfl; exact rfl; decide; omega; (unfold maxLen; omega); clear hs; intro a9 c9 w hs)) | ((with_reducible refine isl ?_); first | ((with_reducible apply ld hs.b0); exact rfl; exact rfl; exact rfl; exact rfl; kernel_rfl) | ((with_reducible apply ld hs.b1); exact rfl; exact rfl; exact rfl; exact rfl; kernel_rfl) | ((with_reducible apply ld hs.b2); exact rfl; exact rfl; exact rfl; exact rfl; kernel_rfl) | ((with_reducible apply st hs.b0); exact rfl; exact rfl; exact rfl; exact rfl; exact rfl; exact rfl; kernel_rfl; exact rfl; clear hs; intro w hs) | ((with_reducible apply st hs.b1); exact rfl; exact rfl; exact rfl; exact rfl; exact rfl; exact rfl; kernel_rfl; exact rfl; clear hs; intro w hs) | ((with_reducible apply st hs.b2); exact rfl; exact rfl; exact rfl; exact rfl; exact rfl; exact rfl; kernel_rfl; exact rfl; clear hs; intro w hs) | ((with_reducible apply stc hs.b0); exact rfl; exact rfl; exact rfl; exact rfl; exact rfl; kernel_rfl; exact rfl; clear hs; intro w hs) | ((with_reducible apply stc hs.b1); exact rfl; exact rfl; exact rfl; exact rfl; exact rfl; kernel_rfl; exact rfl; clear hs; intro w hs) | ((with_reducible apply stc hs.b2); exact rfl; exact rfl; exact rfl; exact rfl; exact rfl; kernel_rfl; exact rfl; clear hs; intro w hs) | ((with_reducible refine wrap hs ?_); clear hs; intro w hs) | ((with_reducible refine wrapn hs ?_); clear hs; intro w hs) | ((with_reducible refine wrapd hs ?_); clear hs; intro w hs)))
      (first | refine on_now hs ?_ | refine on_now hs.drew ?_ | refine on_now hs.made ?_ | refine on_now hs.made.drew ?_ | refine on_now (hs.drewN _) ?_); clear hs; intro hs
      refine L_on [cel b 55 [.slice a k p]] [cel b 55 [.slice a k p]] #[true, true, true, true, true, true, true, true, true, false, false, false] (fuel := 3) hs (by kernel_rfl) (fun _ h => h) (fun _ h => h) (fun _ => by (refine sb_from ?_ hs; repeat constructor)) (fun _ => by (refine sb_from ?_ hs; repeat constructor)) ?_; clear hd hs; intro hd hs
      refine L_each [9] (by kernel_rfl) ⟨?_, trivial⟩
      simp only [nth]
      go_wp2_with (first | (go_at_call 30; refine (blank30 (a := At.z) hs).mono ?_; clear hs; rintro e w ⟨rfl, hs⟩) | (first | ((with_reducible apply app (T' := 41) hs.b0); exact rfl; exact rfl; exact rfl; exact rfl; exact slty37; exact rfl; exact rfl; decide; omega; (unfold maxLen; omega); clear hs; intro a9 c9 w hs) | ((with_reducible apply app (T' := 41) hs.b1); exact rfl; exact rfl; exact rfl; exact rfl; exact slty37; exact rfl; exact rfl; decide; omega; (unfold maxLen; omega); clear hs; intro a9 c9 w hs) | ((with_reducible apply app (T' := 41) hs.b2); exact rfl; exact rfl; exact rfl; exact rfl; exact slty37; exact rfl; exact rfl; decide; omega; (unfold maxLen; omega); clear hs; intro a9 c9 w hs) | ((with_reducible apply app (T' := 41) hs.b3); exact rfl; exact rfl; exact rfl; exact rfl; exact slty37; exact rfl; exact rfl; decide; omega; (unfold maxLen; omega); clear hs; intro a9 c9 w hs)) | ((with_reducible refine isl ?_); first | ((with_reducible apply ld hs.b0); exact rfl; exact rfl; exact rfl; exact rfl; kernel_rfl) | ((with_reducible apply ld hs.b1); exact rfl; exact rfl; exact rfl; exact rfl; kernel_rfl) | ((with_reducible apply ld hs.b2); exact rfl; exact rfl; exact rfl; exact rfl; kernel_rfl) | ((with_reducible apply st hs.b0); exact rfl; exact rfl; exact rfl; exact rfl; exact rfl; exact rfl; kernel_rfl; exact rfl; clear hs; intro w hs) | ((with_reducible apply st hs.b1); exact rfl; exact rfl; exact rfl; exact rfl; exact rfl; exact rfl; kernel_rfl; exact rfl; clear hs; intro w hs) | ((with_reducible apply st hs.b2); exact rfl; exact rfl; exact rfl; exact rfl; exact rfl; exact rfl; kernel_rfl; exact rfl; clear hs; intro w hs) | ((with_reducible apply stc hs.b0); exact rfl; exact rfl; exact rfl; exact rfl; exact rfl; kernel_rfl; exact rfl; clear hs; intro w hs) | ((with_reducible apply stc hs.b1); exact rfl; exact rfl; exact rfl; exact rfl; exact rfl; kernel_rfl; exact rfl; clear hs; intro w hs) | ((with_reducible apply stc hs.b2); exact rfl; exact rfl; exact rfl; exact rfl; exact rfl; kernel_rfl; exact rfl; clear hs; intro w hs) | ((with_reducible refine wrap hs ?_); clear hs; intro w hs) | ((with_reducible refine wrapn hs ?_); clear hs; intro w hs) | ((with_reducible refine wrapd hs ?_); clear hs; intro w hs)))
      (first | refine on_now hs ?_ | refine on_now hs.drew ?_ | refine on_now hs.made ?_ | refine on_now hs.made.drew ?_ | refine on_now (hs.drewN _) ?_); clear hs; intro hs
      refine L_on [cel b 55 [.slice a k p]] [cel b 55 [.slice a k p]] #[true, true, true, true, true, true, true, true, true, true, false, false] (fuel := 2) hs (by kernel_rfl) (fun _ h => h) (fun _ h => h) (fun _ => by (refine sb_from ?_ hs; repeat constructor)) (fun _ => by (refine sb_from ?_ hs; repeat constructor)) ?_; clear hd hs; intro hd hs
      refine L_reads2 [10] #[true, true, true, true, true, true, true, true, true, true, true, false] (fuel := 1) hd (by kernel_rfl) (fun _ _ _ _ _ h => h) ?_; clear hd; intro X f hne hf hcl hd; simp only [nths, nth, List.append_nil, List.nil_append, List.cons_append]; (try simp only [Act.put, List.setIfInBounds_toArray, List.set_cons_succ, List.set_cons_zero]); (repeat ((first | ((with_reducible apply ldq (fun x => (hf x).b0)); exact rfl; exact rfl; exact rfl; exact rfl; kernel_rfl) | go_big_quiet_step (fail)); (try simp only [Act.put, List.setIfInBounds_toArray, List.set_cons_succ, List.set_cons_zero]))); refine wpQuiet_nil ?_; clear hcl hf hne f X
      refine L_each [11] (by kernel_rfl) ⟨?_, trivial⟩
      simp only [nth]
      go_wp2_with (first | (go_at_call 30; refine (blank30 (a := At.z) hs).mono ?_; clear hs; rintro e w ⟨rfl, hs⟩) | (first | ((with_reducible apply app (T' := 41) hs.b0); exact rfl; exact rfl; exact rfl; exact rfl; exact slty37; exact rfl; exact rfl; decide; omega; (unfold maxLen; omega); clear hs; intro a9 c9 w hs) | ((with_reducible apply app (T' := 41) hs.b1); exact rfl; exact rfl; exact rfl; exact rfl; exact slty37; exact rfl; exact rfl; decide; omega; (unfold maxLen; omega); clear hs; intro a9 c9 w hs) | ((with_reducible apply app (T' := 41) hs.b2); exact rfl; exact rfl; exact rfl; exact rfl; exact slty37; exact rfl; exact rfl; decide; omega; (unfold maxLen; omega); clear hs; intro a9 c9 w hs) | ((with_reducible apply app (T' := 41) hs.b3); exact rfl; exact rfl; exact rfl; exact rfl; exact slty37; exact rfl; exact rfl; decide; omega; (unfold maxLen; omega); clear hs; intro a9 c9 w hs)) | ((with_reducible refine isl ?_); first | ((with_reducible apply ld hs.b0); exact rfl; exact rfl; exact rfl; exact rfl; kernel_rfl) | ((with_reducible apply ld hs.b1); exact rfl; exact rfl; exact rfl; exact rfl; kernel_rfl) | ((with_reducible apply ld hs.b2); exact rfl; exact rfl; exact rfl; exact rfl; kernel_rfl) | ((with_reducible apply st hs.b0); exact rfl; exact rfl; exact rfl; exact rfl; exact rfl; exact rfl; kernel_rfl; exact rfl; clear hs; intro w hs) | ((with_reducible apply st hs.b1); exact rfl; exact rfl; exact rfl; exact rfl; exact rfl; exact rfl; kernel_rfl; exact rfl; clear hs; intro w hs) | ((with_reducible apply st hs.b2); exact rfl; exact rfl; exact rfl; exact rfl; exact rfl; exact rfl; kernel_rfl; exact rfl; clear hs; intro w hs) | ((with_reducible apply stc hs.b0); exact rfl; exact rfl; exact rfl; exact rfl; exact rfl; kernel_rfl; exact rfl; clear hs; intro w hs) | ((with_reducible apply stc hs.b1); exact rfl; exact rfl; exact rfl; exact rfl; exact rfl; kernel_rfl; exact rfl; clear hs; intro w hs) | ((with_reducible apply stc hs.b2); exact rfl; exact rfl; exact rfl; exact rfl; exact rfl; kernel_rfl; exact rfl; clear hs; intro w hs) | ((with_reducible refine wrap hs ?_); clear hs; intro w hs) | ((with_reducible refine wrapn hs ?_); clear hs; intro w hs) | ((with_reducible refine wrapd hs ?_); clear hs; intro w hs)))
      (first | refine on_now hs ?_ | refine on_now hs.drew ?_ | refine on_now hs.made ?_ | refine on_now hs.made.drew ?_ | refine on_now (hs.drewN _) ?_); clear hs; intro hs
      refine L_on [cel b 55 [.slice a k p]] [cel b 55 [.slice a k p]] #[true, true, true, true, true, true, true, true, true, true, true, true] (fuel := 0) hs (by kernel_rfl) (fun _ h => h) (fun _ h => h) (fun e => absurd e (by decide)) (fun e => absurd e (by decide)) ?_; clear hd hs; intro hd hs
      refine L_done (by kernel_rfl) ?_; clear hd
      go_wp2_with fail
      go_roundw
      case rel => exact ⟨k + 1, j + 1, _, _, by have := HK.out; omega, .inr (by omega), by rw [← HS.out]; refine sb_from ?_ hs; repeat constructor⟩
      case measure => rw [HLN.out, lenAt_is (by refine sb_from ?_ hs; repeat constructor)]; omega
    · have hge : ¬ (k : Int) < (m : Int) := by omega
      obtain ⟨g, rfl⟩ := own_ptr (by omega) hs.b1
      have hcap := hs.b1.own_len
      have hc1 : k ≤ p := hcap.1
      have hc2 : p ≤ maxLen := hcap.2
      unfold maxLen at hc2
      have hc3 : (m : Int) ≤ (p : Int) := by omega
      obtain ⟨qs, hqs⟩ : ∃ qs, ps ++ List.replicate j (PC.bl At.z) = qs := ⟨_, rfl⟩
      have HQL : Hid (qs.length = k) := Lib.hid (by rw [← hqs, List.length_append, List.length_replicate, HP.out.1]; exact HK.out.symm)
      have HR : Hid (resG l m = md 0 ((qs.take m).map (·.c))) := Lib.hid (by
        unfold resG
        congr 1
        rw [← hqs, List.map_take, List.map_append, List.map_replicate, HP.out.2]
        have hk := HK.out
        by_cases hmn : m ≤ l.length
        · rw [if_pos hmn]
          have hj0 : j = 0 := by
            rcases hj with h | h
            · exact h
            · rw [HN0.out] at hmn; omega
          rw [hj0, List.replicate_zero, List.append_nil]
        · rw [if_neg hmn]
          have hn := HN0.out
          have hj1 : j = m - l.length := by
            rcases hj with h | h <;> omega
          rw [List.take_of_length_le (by rw [List.length_append, List.length_replicate]; omega), hj1]
          rfl)
      have hs : sat W (cel b 55 [.slice (some ⟨g, 0, none⟩) k p] :: own 41 6 (.slice (some ⟨g, 0, none⟩) k p) k (rws qs).flatten :: cmb qs :: H) wr := by
        rw [hqs] at hs
        have h6 := cmb_bls (a := At.z) j (cmb_nil hs)
        rw [List.append_nil] at h6
        have h7 : sat W (cmb ps :: cmb (List.replicate j (PC.bl At.z)) :: cel b 55 [.slice (some ⟨g, 0, none⟩) k p] :: own 41 6 (.slice (some ⟨g, 0, none⟩) k p) k (rws qs).flatten :: H) wr := by refine sb_from ?_ h6; repeat constructor
        have h8 := cmb_app h7
        rw [hqs] at h8
        refine sb_from ?_ h8; repeat constructor
      have HTL : Hid ((qs.take m).length = m) := Lib.hid (by rw [List.length_take, HQL.out]; omega)
      have HTM : Hid (((qs.take m).map (·.c)).length = m) := Lib.hid (by rw [List.length_map]; exact HTL.out)
      have hk2 : m ≤ k := by omega
      have HM2 := Lib.hid (And.intro hm0 hm)
      clear hkm hqs hcap
      go_upto_region 8 with (first | ((with_reducible refine isl ?_); first | ((with_reducible apply ld hs.b0); exact rfl; exact rfl; exact rfl; exact rfl; kernel_rfl) | ((with_reducible apply st hs.b0); exact rfl; exact rfl; exact rfl; exact rfl; exact rfl; exact rfl; kernel_rfl; exact rfl; clear hs; intro w hs) | ((with_reducible apply stc hs.b0); exact rfl; exact rfl; exact rfl; exact rfl; exact rfl; kernel_rfl; exact rfl; clear hs; intro w hs) | ((with_reducible refine wrap hs ?_); clear hs; intro w hs) | ((with_reducible refine wrapn hs ?_); clear hs; intro w hs) | ((with_reducible refine wrapd hs ?_); clear hs; intro w hs)))
      have h9 : sat W (rwP 55 b ((qs.take m).map (·.c)) :: H) w := by
        have h6 := (hs.b1.own_take (q := m) (by omega) hk2)
        rw [flat_take _ _ (rws6 qs), rws_take] at h6
        have h7 : sat W (cmb qs :: cel b 55 [.slice (some ⟨g, 0, none⟩) m p] :: own 41 6 (.slice (some ⟨g, 0, none⟩) m p) m (rws (qs.take m)).flatten :: H) w := by refine sb_from ?_ h6; repeat constructor
        have h8 := cmb_take m h7
        exact rw_close HTL.out (by refine sb_from ?_ h8; repeat constructor)
      clear hs
      go_wp2_with (first | (go_at_call 44; refine (mend44 HTM.out HM2.out.1 (by have := HM2.out.2; omega) h9).mono ?_; clear h9; rintro e w ⟨rfl, hs⟩) | ((with_reducible refine isl ?_); first | ((with_reducible refine wrap hs ?_); clear hs; intro w hs) | ((with_reducible refine wrapn hs ?_); clear hs; intro w hs) | ((with_reducible refine wrapd hs ?_); clear hs; intro w hs)))
      go_ret
      exact ⟨rfl, by rw [HR.out]; exact hs⟩
end Go.Proofs.Yteoeeiinngpogaa
