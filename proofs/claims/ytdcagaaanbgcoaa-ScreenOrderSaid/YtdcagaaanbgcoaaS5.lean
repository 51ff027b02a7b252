/- Law 9: lines that move. -/
import Derived.Test.YtdcagaaanbgcoaaSf
import Derived.Test.YtdcagaaanbgcoaaS3
namespace Go.Proofs.Ytdcagaaanbgcoaa
open Go.RowKit Go.Mem Go.Cells Go.Lines
variable {W w : World} {H : List HProp}
section
variable {α : Type}
/-- Of k places from f on, the last m go; F come at f. -/
def downL (L : List α) (f k m : Nat) (F : List α) : List α := L.take f ++ F ++ (L.drop f).take (k - m) ++ L.drop (f + k)
/-- The first m go; F come behind the rest. -/
def upL (L : List α) (f k m : Nat) (F : List α) : List α := L.take f ++ (L.drop (f + m)).take (k - m) ++ F ++ L.drop (f + k)
theorem cut4 (L : List α) {f k m : Nat} (hm : m ≤ k) (h : f + k ≤ L.length) : ∃ A B C D : List α, L = A ++ (B ++ (C ++ D)) ∧ A.length = f ∧ B.length = k - m ∧ C.length = m ∧ L.drop (f + k) = D := by
  refine ⟨L.take f, (L.drop f).take (k - m), (L.drop (f + (k - m))).take m, L.drop (f + k), ?_, by rw [List.length_take]; omega, by rw [List.length_take, List.length_drop]; omega, by rw [List.length_take, List.length_drop]; omega, rfl⟩
  have e1 : (L.drop (f + (k - m))).take m ++ L.drop (f + k) = L.drop (f + (k - m)) := by
    have h := List.take_append_drop m (L.drop (f + (k - m)))
    rw [List.drop_drop, show f + (k - m) + m = f + k from by omega] at h
    exact h
  have e2 : (L.drop f).take (k - m) ++ L.drop (f + (k - m)) = L.drop f := by
    rw [← List.drop_drop, List.take_append_drop]
  rw [e1, e2, List.take_append_drop]
theorem cut4' (L : List α) {f k m : Nat} (hm : m ≤ k) (h : f + k ≤ L.length) : ∃ A B C D : List α, L = A ++ (B ++ (C ++ D)) ∧ A.length = f ∧ B.length = m ∧ C.length = k - m ∧ L.drop (f + k) = D := by
  obtain ⟨A, B, C, D, h1, h2, h3, h4, h5⟩ := cut4 L (m := k - m) (by omega) h
  exact ⟨A, B, C, D, h1, h2, by omega, h4, h5⟩
theorem tk1 {A X : List α} {n : Nat} (h : A.length = n) : (A ++ X).take n = A := by rw [← h, List.take_left]
theorem dp1 {A X : List α} {n : Nat} (h : A.length = n) : (A ++ X).drop n = X := by rw [← h, List.drop_left]
theorem downL_len (L : List α) {f k m : Nat} {F : List α} (hm : m ≤ k) (h : f + k ≤ L.length) (hF : F.length = m) : (downL L f k m F).length = L.length := by
  unfold downL
  simp only [List.length_append, List.length_take, List.length_drop]
  omega
theorem upL_len (L : List α) {f k m : Nat} {F : List α} (hm : m ≤ k) (h : f + k ≤ L.length) (hF : F.length = m) : (upL L f k m F).length = L.length := by
  unfold upL
  simp only [List.length_append, List.length_take, List.length_drop]
  omega
theorem downL_is (L : List α) {f k m : Nat} {F : List α} (hm : m ≤ k) (h : f + k ≤ L.length) (hF : F.length = m) :
    (L.take (f + m) ++ (L.drop f).take (k - m) ++ L.drop (f + m + (k - m))).take f ++ F ++ (L.take (f + m) ++ (L.drop f).take (k - m) ++ L.drop (f + m + (k - m))).drop (f + m) = downL L f k m F := by
  unfold downL
  have e1 : (L.take (f + m) ++ (L.drop f).take (k - m) ++ L.drop (f + m + (k - m))).take f = L.take f := by
    rw [List.append_assoc, List.take_append_of_le_length (by rw [List.length_take]; omega), List.take_take, Nat.min_eq_left (by omega)]
  have e2 : (L.take (f + m) ++ (L.drop f).take (k - m) ++ L.drop (f + m + (k - m))).drop (f + m) = (L.drop f).take (k - m) ++ L.drop (f + k) := by
    rw [List.append_assoc, dp1 (by rw [List.length_take]; omega), show f + m + (k - m) = f + k from by omega]
  rw [e1, e2, List.append_assoc, List.append_assoc, List.append_assoc]
theorem upL_is (L : List α) {f k m : Nat} {F : List α} (hm : m ≤ k) (h : f + k ≤ L.length) (hF : F.length = m) :
    (L.take f ++ (L.drop (f + m)).take (k - m) ++ L.drop (f + (k - m))).take (f + (k - m)) ++ F ++ (L.take f ++ (L.drop (f + m)).take (k - m) ++ L.drop (f + (k - m))).drop (f + (k - m) + m) = upL L f k m F := by
  unfold upL
  have hl : (L.take f ++ (L.drop (f + m)).take (k - m)).length = f + (k - m) := by
    simp only [List.length_append, List.length_take, List.length_drop]; omega
  have e1 : (L.take f ++ (L.drop (f + m)).take (k - m) ++ L.drop (f + (k - m))).take (f + (k - m)) = L.take f ++ (L.drop (f + m)).take (k - m) := tk1 hl
  have e2 : (L.take f ++ (L.drop (f + m)).take (k - m) ++ L.drop (f + (k - m))).drop (f + (k - m) + m) = L.drop (f + k) := by
    rw [← List.drop_drop, dp1 hl, List.drop_drop]
    congr 1; omega
  rw [e1, e2]
theorem downL_map {β : Type} (q : α → β) (L : List α) (f k m : Nat) (F : List α) : (downL L f k m F).map q = downL (L.map q) f k m (F.map q) := by
  unfold downL; simp only [List.map_append, List.map_take, List.map_drop]
theorem upL_map {β : Type} (q : α → β) (L : List α) (f k m : Nat) (F : List α) : (upL L f k m F).map q = upL (L.map q) f k m (F.map q) := by
  unfold upL; simp only [List.map_append, List.map_take, List.map_drop]
end
theorem lrw_down {R : TypeId} {L F : List PL} {f k m : Nat} (hm : m ≤ k) (h : f + k ≤ L.length) (hs : sat W (lrw R L :: lrw R F :: H) w) : sat W (lrw R (downL L f k m F) :: H) w := by
  obtain ⟨A, B, C, D, h1, h2, h3, h4, h5⟩ := cut4 L hm h
  have e : downL L f k m F = A ++ (F ++ (B ++ D)) := by
    unfold downL
    rw [h5, h1, tk1 h2, dp1 h2, tk1 h3, List.append_assoc, List.append_assoc]
  rw [e]
  rw [h1] at hs
  have g1 := lrw_split hs
  have g2 := lrw_split g1.b1
  have g3 := lrw_split g2.b1
  have g4 := lrw_app (by refine sb_from ?_ g3; repeat constructor : sat W (lrw R B :: lrw R D :: lrw R A :: lrw R F :: H) w)
  have g5 := lrw_app (by refine sb_from ?_ g4; repeat constructor : sat W (lrw R F :: lrw R (B ++ D) :: lrw R A :: H) w)
  exact lrw_app (by refine sb_from ?_ g5; repeat constructor : sat W (lrw R A :: lrw R (F ++ (B ++ D)) :: H) w)
theorem lrw_up {R : TypeId} {L F : List PL} {f k m : Nat} (hm : m ≤ k) (h : f + k ≤ L.length) (hs : sat W (lrw R L :: lrw R F :: H) w) : sat W (lrw R (upL L f k m F) :: H) w := by
  obtain ⟨A, B, C, D, h1, h2, h3, h4, h5⟩ := cut4' L hm h
  have e : upL L f k m F = A ++ (C ++ (F ++ D)) := by
    unfold upL
    rw [h5, h1, tk1 h2, ← List.drop_drop, dp1 h2, dp1 h3, tk1 h4, List.append_assoc, List.append_assoc]
  rw [e]
  rw [h1] at hs
  have g1 := lrw_split hs
  have g2 := lrw_split g1.b1
  have g3 := lrw_split g2.b1
  have g4 := lrw_app (by refine sb_from ?_ g3; repeat constructor : sat W (lrw R F :: lrw R D :: lrw R A :: lrw R C :: H) w)
  have g5 := lrw_app (by refine sb_from ?_ g4; repeat constructor : sat W (lrw R C :: lrw R (F ++ D) :: lrw R A :: H) w)
  exact lrw_app (by refine sb_from ?_ g5; repeat constructor : sat W (lrw R A :: lrw R (C ++ (F ++ D)) :: H) w)
/-- How many lines may move. -/
def hld (q : Int) (k : Nat) : Nat := (min (max q 0) (k : Int)).toNat
theorem hld_le (q : Int) (k : Nat) : hld q k ≤ k := by unfold hld; omega
theorem hld_if (q : Int) (k : Nat) : (if (k : Int) < if q < 0 then 0 else q then (k : Int) else if q < 0 then 0 else q) = ((hld q k : Nat) : Int) := by
  unfold hld
  split <;> split <;> omega
theorem size81 : (Try.prog.info? 81).map (·.size) = some 2 := by kernel_rfl
theorem lvs_mid (X pf : List PL) (f i : Nat) : (lvs X).take f ++ lvs pf ++ (lvs X).drop i = lvs (X.take f ++ pf ++ X.drop i) := by rw [lvs_app, lvs_app, lvs_take, lvs_drop]
theorem flat_mid {L F : List (List Value)} {i m : Nat} (h1 : All6 2 L) (h2 : All6 2 F) (hF : F.length = m) : L.flatten.take (i * 2) ++ F.flatten ++ L.flatten.drop (i * 2 + F.flatten.length) = (L.take i ++ F ++ L.drop (i + m)).flatten := by
  rw [flat_take L i h1, flat_size h2, hF, ← Nat.add_mul, flat_drop L (i + m) h1, ← List.flatten_append, ← List.flatten_append]
attribute [local irreducible] rowTy oneTy World.setCell World.setCells World.alloc World.drew World.drewN Calls sat cel own blk old wpQuiet wpList cmb cmb1 rwP cls rws wi wh fst_ World.rangeAt lrw lnP stP lsP dsP lvs frL downL upL
set_option maxRecDepth 20000 in
theorem sdown41 {b s N p f k cols most : Nat} {keeps : Bool} {top bot nx q to_ : Int} {g : Nat} {ps : List PL} {L SL : List LN} {at_ : At} (HO : Hid (ps.map PL.ln = L ∧ ps.length = N)) (hf : f + k ≤ N) (hk : 0 < k) (hto : to_ = ((f + k : Nat) : Int) - 1) (hN : N ≤ 512) (c0 : 1 ≤ cols) (c1 : cols ≤ 512) (hnx : 0 < nx) (hb : nx + 512 ≤ 1000000)
    (hs : sat W (cel b 46 [.pointer (some ⟨s, 0, none⟩), .bool keeps, .int .i64 cols, .slice (some ⟨g, 0, none⟩) N p, .int .i64 top, .int .i64 bot] :: own 81 2 (.slice (some ⟨g, 0, none⟩) N p) N (lvs ps).flatten :: lrw 96 ps :: stP s most nx SL :: H) w) :
    Calls Try.prog 41 #[.pointer (some ⟨b, 0, none⟩), .int .i64 (f : Int), .int .i64 to_, .int .i64 q, aV at_] w fun e w' => e = .returned (.tuple #[]) ∧ ∃ ps2 : List PL, Hid (ps2.map PL.ln = downL L f k (hld q k) (frL (hld q k) nx (frC cols at_)) ∧ ps2.length = N) ∧ sat W (cel b 46 [.pointer (some ⟨s, 0, none⟩), .bool keeps, .int .i64 cols, .slice (some ⟨g, 0, none⟩) N p, .int .i64 top, .int .i64 bot] :: own 81 2 (.slice (some ⟨g, 0, none⟩) N p) N (lvs (ps2)).flatten :: lrw 96 ps2 :: stP s most (nx + hld q k) SL :: H) w' := by
  obtain ⟨fg, bg, fl⟩ := at_
  obtain ⟨hnp, hpm⟩ := hs.b1.own_len
  have hp63 : (p : Int) ≤ 9223372036854775807 := by unfold maxLen at hpm; omega
  have e1 : to_ + 1 = ((f + k : Nat) : Int) := by omega
  have e2 : f + k - f = k := by omega
  have hpf : ¬ p = f := by omega
  obtain ⟨m, hm⟩ : ∃ m, hld q k = m := ⟨_, rfl⟩
  have hmk : m ≤ k := by rw [← hm]; exact hld_le q k
  have HE := Lib.hid (hld_if q k)
  rw [hm] at HE
  rw [hm]
  have HLE : Hid ((lvs ps).length = N) := Lib.hid (by rw [lvs_len, HO.out.2])
  have HS : Hid ((lvs ps).take (f + m) ++ ((lvs ps).drop f).take (k - m) ++ (lvs ps).drop (f + m + (k - m)) = lvs (ps.take (f + m) ++ (ps.drop f).take (k - m) ++ ps.drop (f + m + (k - m)))) := Lib.hid (by simp only [lvs_app, ← lvs_take, ← lvs_drop])
  have HQ : Hid (Nat.min k (k - m) = k - m) := Lib.hid (Nat.min_eq_right (by omega))
  have HM : Hid (Nat.min m k = m) := Lib.hid (Nat.min_eq_left hmk)
  have HB := Lib.hid hb
  have hm512 : m ≤ 512 := by omega
  have hfm : f + m + (k - m) ≤ N := by omega
  have hfm2 : f + (k - m) ≤ N := by omega
  have hmi : (m : Int) ≤ (k : Int) := by omega
  have hmi0 : (0 : Int) ≤ (m : Int) := by omega
  clear hb hm hpm
  go_enter Try.func41, Try.ntmps41
  go_upto_region 3 with (((with_reducible refine isl ?_); first | ((with_reducible apply ldx); exact rfl; exact rfl; exact rfl; (exact hs.b1); exact rfl; kernel_rfl) | ((with_reducible refine wrap hs ?_); clear hs; (generalize w.heap.size = z5); intro w hs)))
  rw [HE.out, e2]
  generalize (if q < 0 then (0 : Int) else q) = q0
  by_cases hc : p - f = m
  · have hkm : k - m = 0 := by omega
    have hmk2 : k = m := by omega
    have HS0 : Hid ((lvs ps).take f ++ ((lvs ps).drop f).take (k - m) ++ (lvs ps).drop (f + (k - m)) = lvs ps) := Lib.hid (by rw [hkm, List.take_zero, List.append_nil, Nat.add_zero, List.take_append_drop])
    have hfk : f + (k - m) ≤ N := by omega
    have HMK := Lib.hid hmk2
    clear hmk2 hkm
    go_upto_region 4 with (((with_reducible refine isl ?_); first | ((with_reducible apply cpyr (i := f) (j := f) (q := k - m) hs.b2); exact rfl; exact rfl; exact rfl; exact rfl; exact Try.underlying44; exact size81; exact lvs2 _; exact HLE.out; exact lvs_row1; exact HQ.out; exact hfk; exact hfk; clear hs; intro w hs; rw [HS0.out] at hs)))
    have HM5 := Lib.hid hm512
    have HC1 := Lib.hid c1
    clear hp63 e1 e2 hpf hc hnp hto hmi hmi0 hm512 c1 hN
    go_wp2_with (first | (go_at_call 45; refine (fresh45 (n := m) (nx := nx) (cols := cols) (s := s) (most := most) (SL := SL) (at_ := ⟨fg, bg, fl⟩) HM5.out c0 HC1.out hnx (by have h1 := HB.out; have h2 := HM5.out; omega) (by (apply sk_from (hs := hs); repeat constructor))).mono ?_; clear hs; rintro e w ⟨g2, rfl, hs⟩; obtain ⟨pf, hpf1, hpf2, hs⟩ := ln_open (frL_len _ _ _) hs; have HPF := Lib.hid (And.intro hpf1 hpf2); have HLF := Lib.hid (show (lvs pf).flatten.length = Nat.min m k * 2 by rw [lvs_size, hpf2, HM.out]); clear hpf1 hpf2; replace hs : sat W (own 81 2 (.slice (some ⟨g, 0, none⟩) N p) N (lvs ps).flatten :: own 81 2 (.slice (some ⟨g2, 0, none⟩) m m) m (lvs pf).flatten :: lrw 96 pf :: cel b 46 [.pointer (some ⟨s, 0, none⟩), .bool keeps, .int .i64 cols, .slice (some ⟨g, 0, none⟩) N p, .int .i64 top, .int .i64 bot] :: stP s most (nx + m) SL :: lrw 96 ps :: H) w := by refine sb_from ?_ hs; repeat constructor) | ((with_reducible refine isl ?_); first | ((with_reducible apply cpyw (i := f) (news := (lvs pf).flatten) (ad := ⟨g2, 0, none⟩) hs); exact rfl; exact rfl; exact rfl; exact rfl; exact Try.underlying44; exact size81; exact HLF.out; exact (fun j u hu => by rw [Go.Mem.add_none, Nat.zero_add]; exact hs.b1.own_cell hu); exact lvs_one; (rw [HM.out]; omega); clear hs; intro w hs) | ((with_reducible apply ldsx 3); exact rfl; exact rfl; exact rfl; (exact hs.b1); exact row33; exact rfl; exact rfl)))
    refine end_end0 rfl rfl ⟨rfl, ?_⟩
    have e5 : (lvs ps).take f ++ lvs pf ++ (lvs ps).drop (f + m) = lvs (downL ps f k m pf) := by
      have h1 := HMK.out
      subst h1
      unfold downL
      rw [Nat.sub_self, List.take_zero, List.append_nil]
      simp only [lvs_app, lvs_take, lvs_drop]
    rw [flat_mid (lvs2 _) (lvs2 _) (by rw [lvs_len, HPF.out.2] : (lvs pf).length = m), e5] at hs
    have h1 := lrw_down (k := k) hmk (by rw [HO.out.2]; exact hf) (by refine sb_from ?_ hs; repeat constructor : sat W (lrw 96 ps :: lrw 96 pf :: cel b 46 [.pointer (some ⟨s, 0, none⟩), .bool keeps, .int .i64 cols, .slice (some ⟨g, 0, none⟩) N p, .int .i64 top, .int .i64 bot] :: own 81 2 (.slice (some ⟨g, 0, none⟩) N p) N (lvs (downL ps f k m pf)).flatten :: stP s most (nx + m) SL :: H) w)
    have HO2 : Hid ((downL ps f k m pf).map PL.ln = downL L f k m (frL m nx (frC cols ⟨fg, bg, fl⟩)) ∧ (downL ps f k m pf).length = N) := Lib.hid ⟨by rw [downL_map, HO.out.1, HPF.out.1], by rw [downL_len ps hmk (by rw [HO.out.2]; exact hf) HPF.out.2, HO.out.2]⟩
    exact ⟨_, HO2, by refine sb_from ?_ h1; repeat constructor⟩
  · go_upto_region 4 with (((with_reducible refine isl ?_); first | ((with_reducible apply cpyr (i := f + m) (j := f) (q := k - m) hs.b2); exact rfl; exact rfl; (rw [Nat.add_mul]; exact rfl); exact rfl; exact Try.underlying44; exact size81; exact lvs2 _; exact HLE.out; exact lvs_row1; exact HQ.out; exact hfm; exact hfm2; clear hs; intro w hs; rw [HS.out] at hs)))
    have HM5 := Lib.hid hm512
    have HC1 := Lib.hid c1
    clear hp63 e1 e2 hpf hc hnp hto hmi hmi0 hm512 c1 hN
    go_wp2_with (first | (go_at_call 45; refine (fresh45 (n := m) (nx := nx) (cols := cols) (s := s) (most := most) (SL := SL) (at_ := ⟨fg, bg, fl⟩) HM5.out c0 HC1.out hnx (by have h1 := HB.out; have h2 := HM5.out; omega) (by (apply sk_from (hs := hs); repeat constructor))).mono ?_; clear hs; rintro e w ⟨g2, rfl, hs⟩; obtain ⟨pf, hpf1, hpf2, hs⟩ := ln_open (frL_len _ _ _) hs; have HPF := Lib.hid (And.intro hpf1 hpf2); have HLF := Lib.hid (show (lvs pf).flatten.length = Nat.min m k * 2 by rw [lvs_size, hpf2, HM.out]); clear hpf1 hpf2; replace hs : sat W (own 81 2 (.slice (some ⟨g, 0, none⟩) N p) N (lvs (ps.take (f + m) ++ (ps.drop f).take (k - m) ++ ps.drop (f + m + (k - m)))).flatten :: own 81 2 (.slice (some ⟨g2, 0, none⟩) m m) m (lvs pf).flatten :: lrw 96 pf :: cel b 46 [.pointer (some ⟨s, 0, none⟩), .bool keeps, .int .i64 cols, .slice (some ⟨g, 0, none⟩) N p, .int .i64 top, .int .i64 bot] :: stP s most (nx + m) SL :: lrw 96 ps :: H) w := by refine sb_from ?_ hs; repeat constructor) | ((with_reducible refine isl ?_); first | ((with_reducible apply cpyw (i := f) (news := (lvs pf).flatten) (ad := ⟨g2, 0, none⟩) hs); exact rfl; exact rfl; exact rfl; exact rfl; exact Try.underlying44; exact size81; exact HLF.out; exact (fun j u hu => by rw [Go.Mem.add_none, Nat.zero_add]; exact hs.b1.own_cell hu); exact lvs_one; (rw [HM.out]; omega); clear hs; intro w hs) | ((with_reducible apply ldsx 3); exact rfl; exact rfl; exact rfl; (exact hs.b1); exact row33; exact rfl; exact rfl)))
    refine end_end0 rfl rfl ⟨rfl, ?_⟩
    have e5 : (lvs (ps.take (f + m) ++ (ps.drop f).take (k - m) ++ ps.drop (f + m + (k - m)))).take f ++ lvs pf ++ (lvs (ps.take (f + m) ++ (ps.drop f).take (k - m) ++ ps.drop (f + m + (k - m)))).drop (f + m) = lvs (downL ps f k m pf) := by
      rw [lvs_mid, downL_is ps hmk (by rw [HO.out.2]; exact hf) HPF.out.2]
    rw [flat_mid (lvs2 _) (lvs2 _) (by rw [lvs_len, HPF.out.2] : (lvs pf).length = m), e5] at hs
    have h1 := lrw_down (k := k) hmk (by rw [HO.out.2]; exact hf) (by refine sb_from ?_ hs; repeat constructor : sat W (lrw 96 ps :: lrw 96 pf :: cel b 46 [.pointer (some ⟨s, 0, none⟩), .bool keeps, .int .i64 cols, .slice (some ⟨g, 0, none⟩) N p, .int .i64 top, .int .i64 bot] :: own 81 2 (.slice (some ⟨g, 0, none⟩) N p) N (lvs (downL ps f k m pf)).flatten :: stP s most (nx + m) SL :: H) w)
    have HO2 : Hid ((downL ps f k m pf).map PL.ln = downL L f k m (frL m nx (frC cols ⟨fg, bg, fl⟩)) ∧ (downL ps f k m pf).length = N) := Lib.hid ⟨by rw [downL_map, HO.out.1, HPF.out.1], by rw [downL_len ps hmk (by rw [HO.out.2]; exact hf) HPF.out.2, HO.out.2]⟩
    exact ⟨_, HO2, by refine sb_from ?_ h1; repeat constructor⟩
end Go.Proofs.Ytdcagaaanbgcoaa
namespace Go.Proofs.Ytdcagaaanbgcoaa
open Go.RowKit Go.Mem Go.Cells Go.Lines
variable {W w : World} {H : List HProp}
attribute [local irreducible] rowTy oneTy World.setCell World.setCells World.alloc World.drew World.drewN Calls sat cel own blk old wpQuiet wpList cmb cmb1 rwP cls rws wi wh fst_ World.rangeAt lrw lnP stP lsP dsP lvs frL downL upL pushs
set_option maxRecDepth 20000 in
theorem sup40_drop {b s N p f k cols most : Nat} {keeps : Bool} {top bot nx q to_ : Int} {g : Nat} {ps : List PL} {L SL : List LN} {at_ : At} (HO : Hid (ps.map PL.ln = L ∧ ps.length = N)) (hf : f + k ≤ N) (hk : 0 < k) (hto : to_ = ((f + k : Nat) : Int) - 1) (hN : N ≤ 512) (c0 : 1 ≤ cols) (c1 : cols ≤ 512) (hnx : 0 < nx) (hb : nx + 512 ≤ 1000000) 
    (hs : sat W (cel b 46 [.pointer (some ⟨s, 0, none⟩), .bool keeps, .int .i64 cols, .slice (some ⟨g, 0, none⟩) N p, .int .i64 top, .int .i64 bot] :: own 81 2 (.slice (some ⟨g, 0, none⟩) N p) N (lvs ps).flatten :: lrw 96 ps :: stP s most nx SL :: H) w) :
    Calls Try.prog 40 #[.pointer (some ⟨b, 0, none⟩), .int .i64 (f : Int), .int .i64 to_, .int .i64 q, aV at_, .func (Fn.func 38) #[.pointer (some ⟨b, 0, none⟩)] #[]] w fun e w' => e = .returned (.tuple #[]) ∧ ∃ ps2 : List PL, Hid (ps2.map PL.ln = upL L f k (hld q k) (frL (hld q k) nx (frC cols at_)) ∧ ps2.length = N) ∧ sat W (cel b 46 [.pointer (some ⟨s, 0, none⟩), .bool keeps, .int .i64 cols, .slice (some ⟨g, 0, none⟩) N p, .int .i64 top, .int .i64 bot] :: own 81 2 (.slice (some ⟨g, 0, none⟩) N p) N (lvs (ps2)).flatten :: lrw 96 ps2 :: stP s most (nx + hld q k) SL :: H) w' := by
  obtain ⟨fg, bg, fl⟩ := at_
  obtain ⟨hnp, hpm⟩ := hs.b1.own_len
  have hp63 : (p : Int) ≤ 9223372036854775807 := by unfold maxLen at hpm; omega
  have e1 : to_ + 1 = ((f + k : Nat) : Int) := by omega
  have e2 : f + k - f = k := by omega
  have hpf : ¬ p = f := by omega
  obtain ⟨m, hm⟩ : ∃ m, hld q k = m := ⟨_, rfl⟩
  have hmk : m ≤ k := by rw [← hm]; exact hld_le q k
  have HE := Lib.hid (hld_if q k)
  rw [hm] at HE
  rw [hm]
  have e3 : (k : Int) - (m : Int) = ((k - m : Nat) : Int) := by omega
  have e4 : k - (k - m) = m := by omega
  have HLE : Hid ((lvs ps).length = N) := Lib.hid (by rw [lvs_len, HO.out.2])
  have HS : Hid ((lvs ps).take f ++ ((lvs ps).drop (f + m)).take (k - m) ++ (lvs ps).drop (f + (k - m)) = lvs (ps.take f ++ (ps.drop (f + m)).take (k - m) ++ ps.drop (f + (k - m)))) := Lib.hid (by simp only [lvs_app, ← lvs_take, ← lvs_drop])
  have HQ : Hid (Nat.min (k - m) k = k - m) := Lib.hid (Nat.min_eq_left (by omega))
  have HM : Hid (Nat.min m m = m) := Lib.hid (Nat.min_self m)
  have HB := Lib.hid hb
  have hm512 : m ≤ 512 := by omega
  have hfm : f + (k - m) ≤ N := by omega
  have hfm2 : f + m + (k - m) ≤ N := by omega
  have hmi : (m : Int) ≤ (k : Int) := by omega
  have hmi0 : (0 : Int) ≤ (m : Int) := by omega
  have HM5 := Lib.hid hm512
  have HC1 := Lib.hid c1
  have HN5 := Lib.hid hN
  clear hb hm hpm hm512 c1 hN
  go_enter Try.func40, Try.ntmps40
  go_upto_region 3 with (((with_reducible refine isl ?_); first | ((with_reducible apply ldx); exact rfl; exact rfl; exact rfl; (exact hs.b1); exact rfl; kernel_rfl) | ((with_reducible refine wrap hs ?_); clear hs; (generalize w.heap.size = z5); intro w hs)))
  rw [HE.out, e2]
  generalize (if q < 0 then (0 : Int) else q) = q0
  go_upto_region 4 with ((go_at_call 38; refine (sdrop38 hs).mono ?_; clear hs; rintro e w ⟨rfl, hs⟩))
  by_cases hc : p - f = m
  · have hkm : k - m = 0 := by omega
    have hmk2 : k = m := by omega
    have HS0 : Hid ((lvs ps).take f ++ ((lvs ps).drop f).take (k - m) ++ (lvs ps).drop (f + (k - m)) = lvs (ps.take f ++ (ps.drop (f + m)).take (k - m) ++ ps.drop (f + (k - m)))) := Lib.hid (by rw [hkm, List.take_zero, List.take_zero, List.append_nil, List.append_nil, Nat.add_zero, List.take_append_drop, List.take_append_drop])
    have hc2 : ¬ p - f = k - m := by omega
    clear hmk2 hkm
    go_upto_region 5 with (((with_reducible refine isl ?_); first | ((with_reducible apply cpyr (i := f) (j := f) (q := k - m) hs.b2); exact rfl; exact rfl; exact rfl; exact rfl; exact Try.underlying44; exact size81; exact lvs2 _; exact HLE.out; exact lvs_row1; exact HQ.out; exact hfm; exact hfm; clear hs; intro w hs; rw [HS0.out] at hs)))
    refine region_mix [([0, 1, 2, 3, 4, 5, 6, 7, 8], [9]), ([], [10])] [] hs (fun _ h => by (show sat W [cel z5 25 [.int .u32 fg, .int .u32 bg, .int .u16 fl]] _; refine sb_from ?_ h; repeat constructor)) (by kernel_rfl) (by kernel_rfl) (fun _ _ _ _ _ h => h) ?_
    simp only [segs, nths, nth, List.append_nil, List.nil_append, List.cons_append, List.map_cons, List.map_nil]
    refine seg_reads (fun _ h => by (show sat W [cel z5 25 [.int .u32 fg, .int .u32 bg, .int .u16 fl]] _; refine sb_from ?_ h; repeat constructor)) ?_; intro X f hne hf hcl; (try simp only [Act.put, List.setIfInBounds_toArray, List.set_cons_succ, List.set_cons_zero]); (repeat ((first | ((with_reducible apply ldsqx 3); exact rfl; exact rfl; exact rfl; (exact fun x => (hf x).b0); exact row33; exact rfl; exact rfl) | go_big_quiet_step (fail)); (try simp only [Act.put, List.setIfInBounds_toArray, List.set_cons_succ, List.set_cons_zero]))); refine wpQuiet_nil ?_; clear hcl hf hne hs f X; intro w hs
    go_wp2_with ((go_at_call 45; refine (fresh45 (n := m) (nx := nx) (cols := cols) (s := s) (most := most) (SL := SL) (at_ := ⟨fg, bg, fl⟩) HM5.out c0 HC1.out hnx (by have h1 := HB.out; have h2 := HM5.out; omega) (by (apply sk_from (hs := hs); repeat constructor))).mono ?_; clear hs; rintro e w ⟨g2, rfl, hs⟩; obtain ⟨pf, hpf1, hpf2, hs⟩ := ln_open (frL_len _ _ _) hs; have HPF := Lib.hid (And.intro hpf1 hpf2); have HLF := Lib.hid (show (lvs pf).flatten.length = Nat.min m m * 2 by rw [lvs_size, hpf2, HM.out]); clear hpf1 hpf2; replace hs : sat W (own 81 2 (.slice (some ⟨g, 0, none⟩) N p) N (lvs (ps.take f ++ (ps.drop (f + m)).take (k - m) ++ ps.drop (f + (k - m)))).flatten :: own 81 2 (.slice (some ⟨g2, 0, none⟩) m m) m (lvs pf).flatten :: lrw 96 pf :: cel b 46 [.pointer (some ⟨s, 0, none⟩), .bool keeps, .int .i64 cols, .slice (some ⟨g, 0, none⟩) N p, .int .i64 top, .int .i64 bot] :: stP s most (nx + m) SL :: lrw 96 ps :: cel z5 25 [.int .u32 fg, .int .u32 bg, .int .u16 fl] :: H) w := by refine sb_from ?_ hs; repeat constructor))
    (refine seg_on hs (fun _ h => h) ?_ ?_)
    · exact fun _ h => by (show sat W [cel z5 25 [.int .u32 fg, .int .u32 bg, .int .u16 fl]] _; refine sb_from ?_ h; repeat constructor)
    clear hs; intro hs
    refine seg_reads (fun _ h => by (show sat W [cel z5 25 [.int .u32 fg, .int .u32 bg, .int .u16 fl]] _; refine sb_from ?_ h; repeat constructor)) ?_; intro X f hne hf hcl; (try simp only [Act.put, List.setIfInBounds_toArray, List.set_cons_succ, List.set_cons_zero]); (repeat ((fail); (try simp only [Act.put, List.setIfInBounds_toArray, List.set_cons_succ, List.set_cons_zero]))); refine wpQuiet_nil ?_; clear hcl hf hne hs f X; intro w hs
    go_wp2_with (((with_reducible refine isl ?_); first | ((with_reducible apply cpyw (i := f + (k - m)) (news := (lvs pf).flatten) (ad := ⟨g2, 0, none⟩) hs); exact rfl; exact rfl; (rw [Nat.add_mul]; exact rfl); exact rfl; exact Try.underlying44; exact size81; exact HLF.out; exact (fun j u hu => by rw [Go.Mem.add_none, Nat.zero_add]; exact hs.b1.own_cell hu); exact lvs_one; (rw [HM.out]; omega); clear hs; intro w hs)))
    (refine seg_on hs (fun _ h => h) ?_ ?_)
    · exact fun _ h => by (show sat W [cel z5 25 [.int .u32 fg, .int .u32 bg, .int .u16 fl]] _; refine sb_from ?_ h; repeat constructor)
    clear hs; intro hs
    refine seg_last (fun _ h => by (show sat W [cel z5 25 [.int .u32 fg, .int .u32 bg, .int .u16 fl]] _; refine sb_from ?_ h; repeat constructor)) ?_; intro X f hne hf hcl; (try simp only [Act.put, List.setIfInBounds_toArray, List.set_cons_succ, List.set_cons_zero]); (repeat ((fail); (try simp only [Act.put, List.setIfInBounds_toArray, List.set_cons_succ, List.set_cons_zero]))); refine wpQuiet_nil ?_; clear hcl hf hne hs f X; intro w hs
    go_wp2_with fail
    refine end_end0 rfl rfl ⟨rfl, ?_⟩
    have e5 : (lvs (ps.take f ++ (ps.drop (f + m)).take (k - m) ++ ps.drop (f + (k - m)))).take (f + (k - m)) ++ lvs pf ++ (lvs (ps.take f ++ (ps.drop (f + m)).take (k - m) ++ ps.drop (f + (k - m)))).drop (f + (k - m) + m) = lvs (upL ps f k m pf) := by
      rw [lvs_mid, upL_is ps hmk (by rw [HO.out.2]; exact hf) HPF.out.2]
    rw [flat_mid (lvs2 _) (lvs2 _) (by rw [lvs_len, HPF.out.2] : (lvs pf).length = m), e5] at hs
    have h1 := lrw_up (k := k) hmk (by rw [HO.out.2]; exact hf) (by refine sb_from ?_ hs; repeat constructor : sat W (lrw 96 ps :: lrw 96 pf :: cel b 46 [.pointer (some ⟨s, 0, none⟩), .bool keeps, .int .i64 cols, .slice (some ⟨g, 0, none⟩) N p, .int .i64 top, .int .i64 bot] :: own 81 2 (.slice (some ⟨g, 0, none⟩) N p) N (lvs (upL ps f k m pf)).flatten :: stP s most (nx + m) SL :: H) w)
    have HO2 : Hid ((upL ps f k m pf).map PL.ln = upL L f k m (frL m nx (frC cols ⟨fg, bg, fl⟩)) ∧ (upL ps f k m pf).length = N) := Lib.hid ⟨by rw [upL_map, HO.out.1, HPF.out.1], by rw [upL_len ps hmk (by rw [HO.out.2]; exact hf) HPF.out.2, HO.out.2]⟩
    exact ⟨_, HO2, by refine sb_from ?_ h1; repeat constructor⟩
  · by_cases hc2 : p - f = k - m
    · have HM0 : Hid (m = 0) := Lib.hid (by omega)
      go_upto_region 5 with (((with_reducible refine isl ?_); first | ((with_reducible apply cpyr (i := f) (j := f + m) (q := k - m) hs.b2); exact rfl; exact rfl; exact rfl; (rw [Nat.add_mul]; exact rfl); exact Try.underlying44; exact size81; exact lvs2 _; exact HLE.out; exact lvs_row1; exact HQ.out; exact hfm; exact hfm2; clear hs; intro w hs; rw [HS.out] at hs)))
      refine region_mix [([0, 1, 2, 3, 4, 5, 6, 7, 8], [9]), ([], [10])] [] hs (fun _ h => by (show sat W [cel z5 25 [.int .u32 fg, .int .u32 bg, .int .u16 fl]] _; refine sb_from ?_ h; repeat constructor)) (by kernel_rfl) (by kernel_rfl) (fun _ _ _ _ _ h => h) ?_
      simp only [segs, nths, nth, List.append_nil, List.nil_append, List.cons_append, List.map_cons, List.map_nil]
      refine seg_reads (fun _ h => by (show sat W [cel z5 25 [.int .u32 fg, .int .u32 bg, .int .u16 fl]] _; refine sb_from ?_ h; repeat constructor)) ?_; intro X f hne hf hcl; (try simp only [Act.put, List.setIfInBounds_toArray, List.set_cons_succ, List.set_cons_zero]); (repeat ((first | ((with_reducible apply ldsqx 3); exact rfl; exact rfl; exact rfl; (exact fun x => (hf x).b0); exact row33; exact rfl; exact rfl) | go_big_quiet_step (fail)); (try simp only [Act.put, List.setIfInBounds_toArray, List.set_cons_succ, List.set_cons_zero]))); refine wpQuiet_nil ?_; clear hcl hf hne hs f X; intro w hs
      go_wp2_with ((go_at_call 45; refine (fresh45 (n := m) (nx := nx) (cols := cols) (s := s) (most := most) (SL := SL) (at_ := ⟨fg, bg, fl⟩) HM5.out c0 HC1.out hnx (by have h1 := HB.out; have h2 := HM5.out; omega) (by (apply sk_from (hs := hs); repeat constructor))).mono ?_; clear hs; rintro e w ⟨g2, rfl, hs⟩; obtain ⟨pf, hpf1, hpf2, hs⟩ := ln_open (frL_len _ _ _) hs; have HPF := Lib.hid (And.intro hpf1 hpf2); have HLF := Lib.hid (show (lvs pf).flatten.length = Nat.min m m * 2 by rw [lvs_size, hpf2, HM.out]); clear hpf1 hpf2; replace hs : sat W (own 81 2 (.slice (some ⟨g, 0, none⟩) N p) N (lvs (ps.take f ++ (ps.drop (f + m)).take (k - m) ++ ps.drop (f + (k - m)))).flatten :: own 81 2 (.slice (some ⟨g2, 0, none⟩) m m) m (lvs pf).flatten :: lrw 96 pf :: cel b 46 [.pointer (some ⟨s, 0, none⟩), .bool keeps, .int .i64 cols, .slice (some ⟨g, 0, none⟩) N p, .int .i64 top, .int .i64 bot] :: stP s most (nx + m) SL :: lrw 96 ps :: cel z5 25 [.int .u32 fg, .int .u32 bg, .int .u16 fl] :: H) w := by refine sb_from ?_ hs; repeat constructor))
      (refine seg_on hs (fun _ h => h) ?_ ?_)
      · exact fun _ h => by (show sat W [cel z5 25 [.int .u32 fg, .int .u32 bg, .int .u16 fl]] _; refine sb_from ?_ h; repeat constructor)
      clear hs; intro hs
      refine seg_reads (fun _ h => by (show sat W [cel z5 25 [.int .u32 fg, .int .u32 bg, .int .u16 fl]] _; refine sb_from ?_ h; repeat constructor)) ?_; intro X f hne hf hcl; (try simp only [Act.put, List.setIfInBounds_toArray, List.set_cons_succ, List.set_cons_zero]); (repeat ((fail); (try simp only [Act.put, List.setIfInBounds_toArray, List.set_cons_succ, List.set_cons_zero]))); refine wpQuiet_nil ?_; clear hcl hf hne hs f X; intro w hs
      go_wp2_with (((with_reducible refine isl ?_); first | ((with_reducible apply cpyw (i := f) (news := (lvs pf).flatten) (ad := ⟨g2, 0, none⟩) hs); exact rfl; exact rfl; exact rfl; exact rfl; exact Try.underlying44; exact size81; exact HLF.out; exact (fun j u hu => by rw [Go.Mem.add_none, Nat.zero_add]; exact hs.b1.own_cell hu); exact lvs_one; (rw [HM.out]; omega); clear hs; intro w hs)))
      (refine seg_on hs (fun _ h => h) ?_ ?_)
      · exact fun _ h => by (show sat W [cel z5 25 [.int .u32 fg, .int .u32 bg, .int .u16 fl]] _; refine sb_from ?_ h; repeat constructor)
      clear hs; intro hs
      refine seg_last (fun _ h => by (show sat W [cel z5 25 [.int .u32 fg, .int .u32 bg, .int .u16 fl]] _; refine sb_from ?_ h; repeat constructor)) ?_; intro X f hne hf hcl; (try simp only [Act.put, List.setIfInBounds_toArray, List.set_cons_succ, List.set_cons_zero]); (repeat ((fail); (try simp only [Act.put, List.setIfInBounds_toArray, List.set_cons_succ, List.set_cons_zero]))); refine wpQuiet_nil ?_; clear hcl hf hne hs f X; intro w hs
      go_wp2_with fail
      refine end_end0 rfl rfl ⟨rfl, ?_⟩
      have e5 : (lvs (ps.take f ++ (ps.drop (f + m)).take (k - m) ++ ps.drop (f + (k - m)))).take f ++ lvs pf ++ (lvs (ps.take f ++ (ps.drop (f + m)).take (k - m) ++ ps.drop (f + (k - m)))).drop (f + m) = lvs (upL ps f k m pf) := by
        have hpf0 : pf = [] := List.eq_nil_of_length_eq_zero (by rw [HPF.out.2]; exact HM0.out)
        rw [lvs_mid, ← upL_is ps hmk (by rw [HO.out.2]; exact hf) HPF.out.2, hpf0]
        generalize ps.take f ++ (ps.drop (f + m)).take (k - m) ++ ps.drop (f + (k - m)) = Y
        have hm0 := HM0.out
        subst hm0
        rw [List.append_nil, List.append_nil, Nat.add_zero, Nat.add_zero, List.take_append_drop, List.take_append_drop]
      rw [flat_mid (lvs2 _) (lvs2 _) (by rw [lvs_len, HPF.out.2] : (lvs pf).length = m), e5] at hs
      have h1 := lrw_up (k := k) hmk (by rw [HO.out.2]; exact hf) (by refine sb_from ?_ hs; repeat constructor : sat W (lrw 96 ps :: lrw 96 pf :: cel b 46 [.pointer (some ⟨s, 0, none⟩), .bool keeps, .int .i64 cols, .slice (some ⟨g, 0, none⟩) N p, .int .i64 top, .int .i64 bot] :: own 81 2 (.slice (some ⟨g, 0, none⟩) N p) N (lvs (upL ps f k m pf)).flatten :: stP s most (nx + m) SL :: H) w)
      have HO2 : Hid ((upL ps f k m pf).map PL.ln = upL L f k m (frL m nx (frC cols ⟨fg, bg, fl⟩)) ∧ (upL ps f k m pf).length = N) := Lib.hid ⟨by rw [upL_map, HO.out.1, HPF.out.1], by rw [upL_len ps hmk (by rw [HO.out.2]; exact hf) HPF.out.2, HO.out.2]⟩
      exact ⟨_, HO2, by refine sb_from ?_ h1; repeat constructor⟩
    · go_upto_region 5 with (((with_reducible refine isl ?_); first | ((with_reducible apply cpyr (i := f) (j := f + m) (q := k - m) hs.b2); exact rfl; exact rfl; exact rfl; (rw [Nat.add_mul]; exact rfl); exact Try.underlying44; exact size81; exact lvs2 _; exact HLE.out; exact lvs_row1; exact HQ.out; exact hfm; exact hfm2; clear hs; intro w hs; rw [HS.out] at hs)))
      refine region_mix [([0, 1, 2, 3, 4, 5, 6, 7, 8], [9]), ([], [10])] [] hs (fun _ h => by (show sat W [cel z5 25 [.int .u32 fg, .int .u32 bg, .int .u16 fl]] _; refine sb_from ?_ h; repeat constructor)) (by kernel_rfl) (by kernel_rfl) (fun _ _ _ _ _ h => h) ?_
      simp only [segs, nths, nth, List.append_nil, List.nil_append, List.cons_append, List.map_cons, List.map_nil]
      refine seg_reads (fun _ h => by (show sat W [cel z5 25 [.int .u32 fg, .int .u32 bg, .int .u16 fl]] _; refine sb_from ?_ h; repeat constructor)) ?_; intro X f hne hf hcl; (try simp only [Act.put, List.setIfInBounds_toArray, List.set_cons_succ, List.set_cons_zero]); (repeat ((first | ((with_reducible apply ldsqx 3); exact rfl; exact rfl; exact rfl; (exact fun x => (hf x).b0); exact row33; exact rfl; exact rfl) | go_big_quiet_step (fail)); (try simp only [Act.put, List.setIfInBounds_toArray, List.set_cons_succ, List.set_cons_zero]))); refine wpQuiet_nil ?_; clear hcl hf hne hs f X; intro w hs
      go_wp2_with ((go_at_call 45; refine (fresh45 (n := m) (nx := nx) (cols := cols) (s := s) (most := most) (SL := SL) (at_ := ⟨fg, bg, fl⟩) HM5.out c0 HC1.out hnx (by have h1 := HB.out; have h2 := HM5.out; omega) (by (apply sk_from (hs := hs); repeat constructor))).mono ?_; clear hs; rintro e w ⟨g2, rfl, hs⟩; obtain ⟨pf, hpf1, hpf2, hs⟩ := ln_open (frL_len _ _ _) hs; have HPF := Lib.hid (And.intro hpf1 hpf2); have HLF := Lib.hid (show (lvs pf).flatten.length = Nat.min m m * 2 by rw [lvs_size, hpf2, HM.out]); clear hpf1 hpf2; replace hs : sat W (own 81 2 (.slice (some ⟨g, 0, none⟩) N p) N (lvs (ps.take f ++ (ps.drop (f + m)).take (k - m) ++ ps.drop (f + (k - m)))).flatten :: own 81 2 (.slice (some ⟨g2, 0, none⟩) m m) m (lvs pf).flatten :: lrw 96 pf :: cel b 46 [.pointer (some ⟨s, 0, none⟩), .bool keeps, .int .i64 cols, .slice (some ⟨g, 0, none⟩) N p, .int .i64 top, .int .i64 bot] :: stP s most (nx + m) SL :: lrw 96 ps :: cel z5 25 [.int .u32 fg, .int .u32 bg, .int .u16 fl] :: H) w := by refine sb_from ?_ hs; repeat constructor))
      (refine seg_on hs (fun _ h => h) ?_ ?_)
      · exact fun _ h => by (show sat W [cel z5 25 [.int .u32 fg, .int .u32 bg, .int .u16 fl]] _; refine sb_from ?_ h; repeat constructor)
      clear hs; intro hs
      refine seg_reads (fun _ h => by (show sat W [cel z5 25 [.int .u32 fg, .int .u32 bg, .int .u16 fl]] _; refine sb_from ?_ h; repeat constructor)) ?_; intro X f hne hf hcl; (try simp only [Act.put, List.setIfInBounds_toArray, List.set_cons_succ, List.set_cons_zero]); (repeat ((fail); (try simp only [Act.put, List.setIfInBounds_toArray, List.set_cons_succ, List.set_cons_zero]))); refine wpQuiet_nil ?_; clear hcl hf hne hs f X; intro w hs
      go_wp2_with (((with_reducible refine isl ?_); first | ((with_reducible apply cpyw (i := f + (k - m)) (news := (lvs pf).flatten) (ad := ⟨g2, 0, none⟩) hs); exact rfl; exact rfl; (rw [Nat.add_mul]; exact rfl); exact rfl; exact Try.underlying44; exact size81; exact HLF.out; exact (fun j u hu => by rw [Go.Mem.add_none, Nat.zero_add]; exact hs.b1.own_cell hu); exact lvs_one; (rw [HM.out]; omega); clear hs; intro w hs)))
      (refine seg_on hs (fun _ h => h) ?_ ?_)
      · exact fun _ h => by (show sat W [cel z5 25 [.int .u32 fg, .int .u32 bg, .int .u16 fl]] _; refine sb_from ?_ h; repeat constructor)
      clear hs; intro hs
      refine seg_last (fun _ h => by (show sat W [cel z5 25 [.int .u32 fg, .int .u32 bg, .int .u16 fl]] _; refine sb_from ?_ h; repeat constructor)) ?_; intro X f hne hf hcl; (try simp only [Act.put, List.setIfInBounds_toArray, List.set_cons_succ, List.set_cons_zero]); (repeat ((fail); (try simp only [Act.put, List.setIfInBounds_toArray, List.set_cons_succ, List.set_cons_zero]))); refine wpQuiet_nil ?_; clear hcl hf hne hs f X; intro w hs
      go_wp2_with fail
      refine end_end0 rfl rfl ⟨rfl, ?_⟩
      have e5 : (lvs (ps.take f ++ (ps.drop (f + m)).take (k - m) ++ ps.drop (f + (k - m)))).take (f + (k - m)) ++ lvs pf ++ (lvs (ps.take f ++ (ps.drop (f + m)).take (k - m) ++ ps.drop (f + (k - m)))).drop (f + (k - m) + m) = lvs (upL ps f k m pf) := by
        rw [lvs_mid, upL_is ps hmk (by rw [HO.out.2]; exact hf) HPF.out.2]
      rw [flat_mid (lvs2 _) (lvs2 _) (by rw [lvs_len, HPF.out.2] : (lvs pf).length = m), e5] at hs
      have h1 := lrw_up (k := k) hmk (by rw [HO.out.2]; exact hf) (by refine sb_from ?_ hs; repeat constructor : sat W (lrw 96 ps :: lrw 96 pf :: cel b 46 [.pointer (some ⟨s, 0, none⟩), .bool keeps, .int .i64 cols, .slice (some ⟨g, 0, none⟩) N p, .int .i64 top, .int .i64 bot] :: own 81 2 (.slice (some ⟨g, 0, none⟩) N p) N (lvs (upL ps f k m pf)).flatten :: stP s most (nx + m) SL :: H) w)
      have HO2 : Hid ((upL ps f k m pf).map PL.ln = upL L f k m (frL m nx (frC cols ⟨fg, bg, fl⟩)) ∧ (upL ps f k m pf).length = N) := Lib.hid ⟨by rw [upL_map, HO.out.1, HPF.out.1], by rw [upL_len ps hmk (by rw [HO.out.2]; exact hf) HPF.out.2, HO.out.2]⟩
      exact ⟨_, HO2, by refine sb_from ?_ h1; repeat constructor⟩
set_option maxRecDepth 20000 in
theorem sup40_push {b s N p f k cols most : Nat} {keeps : Bool} {top bot nx q to_ : Int} {g : Nat} {ps : List PL} {L SL : List LN} {at_ : At} (HO : Hid (ps.map PL.ln = L ∧ ps.length = N)) (hf : f + k ≤ N) (hk : 0 < k) (hto : to_ = ((f + k : Nat) : Int) - 1) (hN : N ≤ 512) (c0 : 1 ≤ cols) (c1 : cols ≤ 512) (hnx : 0 < nx) (hb : nx + 512 ≤ 1000000) (ok : LOK L) (idk : IDK nx L) (hmo : most ≤ 10000)
    (hs : sat W (cel b 46 [.pointer (some ⟨s, 0, none⟩), .bool keeps, .int .i64 cols, .slice (some ⟨g, 0, none⟩) N p, .int .i64 top, .int .i64 bot] :: own 81 2 (.slice (some ⟨g, 0, none⟩) N p) N (lvs ps).flatten :: lrw 96 ps :: stP s most nx SL :: H) w) :
    Calls Try.prog 40 #[.pointer (some ⟨b, 0, none⟩), .int .i64 (f : Int), .int .i64 to_, .int .i64 q, aV at_, .func (Fn.func 39) #[.pointer (some ⟨b, 0, none⟩)] #[]] w fun e w' => e = .returned (.tuple #[]) ∧ ∃ ps2 : List PL, Hid (ps2.map PL.ln = upL L f k (hld q k) (frL (hld q k) nx (frC cols at_)) ∧ ps2.length = N) ∧ sat W (cel b 46 [.pointer (some ⟨s, 0, none⟩), .bool keeps, .int .i64 cols, .slice (some ⟨g, 0, none⟩) N p, .int .i64 top, .int .i64 bot] :: own 81 2 (.slice (some ⟨g, 0, none⟩) N p) N (lvs (ps2)).flatten :: lrw 96 ps2 :: stP s most (nx + hld q k) (pushs most SL ((L.drop f).take (hld q k))) :: H) w' := by
  obtain ⟨fg, bg, fl⟩ := at_
  obtain ⟨hnp, hpm⟩ := hs.b1.own_len
  have hp63 : (p : Int) ≤ 9223372036854775807 := by unfold maxLen at hpm; omega
  have e1 : to_ + 1 = ((f + k : Nat) : Int) := by omega
  have e2 : f + k - f = k := by omega
  have hpf : ¬ p = f := by omega
  obtain ⟨m, hm⟩ : ∃ m, hld q k = m := ⟨_, rfl⟩
  have hmk : m ≤ k := by rw [← hm]; exact hld_le q k
  have HE := Lib.hid (hld_if q k)
  rw [hm] at HE
  rw [hm]
  have e3 : (k : Int) - (m : Int) = ((k - m : Nat) : Int) := by omega
  have e4 : k - (k - m) = m := by omega
  have HLE : Hid ((lvs ps).length = N) := Lib.hid (by rw [lvs_len, HO.out.2])
  have HS : Hid ((lvs ps).take f ++ ((lvs ps).drop (f + m)).take (k - m) ++ (lvs ps).drop (f + (k - m)) = lvs (ps.take f ++ (ps.drop (f + m)).take (k - m) ++ ps.drop (f + (k - m)))) := Lib.hid (by simp only [lvs_app, ← lvs_take, ← lvs_drop])
  have HQ : Hid (Nat.min (k - m) k = k - m) := Lib.hid (Nat.min_eq_left (by omega))
  have HM : Hid (Nat.min m m = m) := Lib.hid (Nat.min_self m)
  have HB := Lib.hid hb
  have hm512 : m ≤ 512 := by omega
  have hfm : f + (k - m) ≤ N := by omega
  have hfm2 : f + m + (k - m) ≤ N := by omega
  have hmi : (m : Int) ≤ (k : Int) := by omega
  have hmi0 : (0 : Int) ≤ (m : Int) := by omega
  have HM5 := Lib.hid hm512
  have HC1 := Lib.hid c1
  have HN5 := Lib.hid hN
  clear hb hm hpm hm512 c1 hN
  go_enter Try.func40, Try.ntmps40
  go_upto_region 3 with (((with_reducible refine isl ?_); first | ((with_reducible apply ldx); exact rfl; exact rfl; exact rfl; (exact hs.b1); exact rfl; kernel_rfl) | ((with_reducible refine wrap hs ?_); clear hs; (generalize w.heap.size = z5); intro w hs)))
  rw [HE.out, e2]
  generalize (if q < 0 then (0 : Int) else q) = q0
  go_upto_region 4 with ((go_at_call 39; refine (spush39 (f := f) (n := m) (L := L) HO (by omega) HN5.out ok idk hmo (by (apply sk_from (hs := hs); repeat constructor))).mono ?_; clear hs; rintro e w ⟨rfl, hs⟩))
  by_cases hc : p - f = m
  · have hkm : k - m = 0 := by omega
    have hmk2 : k = m := by omega
    have HS0 : Hid ((lvs ps).take f ++ ((lvs ps).drop f).take (k - m) ++ (lvs ps).drop (f + (k - m)) = lvs (ps.take f ++ (ps.drop (f + m)).take (k - m) ++ ps.drop (f + (k - m)))) := Lib.hid (by rw [hkm, List.take_zero, List.take_zero, List.append_nil, List.append_nil, Nat.add_zero, List.take_append_drop, List.take_append_drop])
    have hc2 : ¬ p - f = k - m := by omega
    clear hmk2 hkm
    go_upto_region 5 with (((with_reducible refine isl ?_); first | ((with_reducible apply cpyr (i := f) (j := f) (q := k - m) hs.b1); exact rfl; exact rfl; exact rfl; exact rfl; exact Try.underlying44; exact size81; exact lvs2 _; exact HLE.out; exact lvs_row1; exact HQ.out; exact hfm; exact hfm; clear hs; intro w hs; rw [HS0.out] at hs)))
    refine region_mix [([0, 1, 2, 3, 4, 5, 6, 7, 8], [9]), ([], [10])] [] hs (fun _ h => by (show sat W [cel z5 25 [.int .u32 fg, .int .u32 bg, .int .u16 fl]] _; refine sb_from ?_ h; repeat constructor)) (by kernel_rfl) (by kernel_rfl) (fun _ _ _ _ _ h => h) ?_
    simp only [segs, nths, nth, List.append_nil, List.nil_append, List.cons_append, List.map_cons, List.map_nil]
    refine seg_reads (fun _ h => by (show sat W [cel z5 25 [.int .u32 fg, .int .u32 bg, .int .u16 fl]] _; refine sb_from ?_ h; repeat constructor)) ?_; intro X f hne hf hcl; (try simp only [Act.put, List.setIfInBounds_toArray, List.set_cons_succ, List.set_cons_zero]); (repeat ((first | ((with_reducible apply ldsqx 3); exact rfl; exact rfl; exact rfl; (exact fun x => (hf x).b0); exact row33; exact rfl; exact rfl) | go_big_quiet_step (fail)); (try simp only [Act.put, List.setIfInBounds_toArray, List.set_cons_succ, List.set_cons_zero]))); refine wpQuiet_nil ?_; clear hcl hf hne hs f X; intro w hs
    go_wp2_with ((go_at_call 45; refine (fresh45 (n := m) (nx := nx) (cols := cols) (s := s) (most := most) (SL := (pushs most SL ((L.drop f).take m))) (at_ := ⟨fg, bg, fl⟩) HM5.out c0 HC1.out hnx (by have h1 := HB.out; have h2 := HM5.out; omega) (by (apply sk_from (hs := hs); repeat constructor))).mono ?_; clear hs; rintro e w ⟨g2, rfl, hs⟩; obtain ⟨pf, hpf1, hpf2, hs⟩ := ln_open (frL_len _ _ _) hs; have HPF := Lib.hid (And.intro hpf1 hpf2); have HLF := Lib.hid (show (lvs pf).flatten.length = Nat.min m m * 2 by rw [lvs_size, hpf2, HM.out]); clear hpf1 hpf2; replace hs : sat W (own 81 2 (.slice (some ⟨g, 0, none⟩) N p) N (lvs (ps.take f ++ (ps.drop (f + m)).take (k - m) ++ ps.drop (f + (k - m)))).flatten :: own 81 2 (.slice (some ⟨g2, 0, none⟩) m m) m (lvs pf).flatten :: lrw 96 pf :: cel b 46 [.pointer (some ⟨s, 0, none⟩), .bool keeps, .int .i64 cols, .slice (some ⟨g, 0, none⟩) N p, .int .i64 top, .int .i64 bot] :: stP s most (nx + m) (pushs most SL ((L.drop f).take m)) :: lrw 96 ps :: cel z5 25 [.int .u32 fg, .int .u32 bg, .int .u16 fl] :: H) w := by refine sb_from ?_ hs; repeat constructor))
    (refine seg_on hs (fun _ h => h) ?_ ?_)
    · exact fun _ h => by (show sat W [cel z5 25 [.int .u32 fg, .int .u32 bg, .int .u16 fl]] _; refine sb_from ?_ h; repeat constructor)
    clear hs; intro hs
    refine seg_reads (fun _ h => by (show sat W [cel z5 25 [.int .u32 fg, .int .u32 bg, .int .u16 fl]] _; refine sb_from ?_ h; repeat constructor)) ?_; intro X f hne hf hcl; (try simp only [Act.put, List.setIfInBounds_toArray, List.set_cons_succ, List.set_cons_zero]); (repeat ((fail); (try simp only [Act.put, List.setIfInBounds_toArray, List.set_cons_succ, List.set_cons_zero]))); refine wpQuiet_nil ?_; clear hcl hf hne hs f X; intro w hs
    go_wp2_with (((with_reducible refine isl ?_); first | ((with_reducible apply cpyw (i := f + (k - m)) (news := (lvs pf).flatten) (ad := ⟨g2, 0, none⟩) hs); exact rfl; exact rfl; (rw [Nat.add_mul]; exact rfl); exact rfl; exact Try.underlying44; exact size81; exact HLF.out; exact (fun j u hu => by rw [Go.Mem.add_none, Nat.zero_add]; exact hs.b1.own_cell hu); exact lvs_one; (rw [HM.out]; omega); clear hs; intro w hs)))
    (refine seg_on hs (fun _ h => h) ?_ ?_)
    · exact fun _ h => by (show sat W [cel z5 25 [.int .u32 fg, .int .u32 bg, .int .u16 fl]] _; refine sb_from ?_ h; repeat constructor)
    clear hs; intro hs
    refine seg_last (fun _ h => by (show sat W [cel z5 25 [.int .u32 fg, .int .u32 bg, .int .u16 fl]] _; refine sb_from ?_ h; repeat constructor)) ?_; intro X f hne hf hcl; (try simp only [Act.put, List.setIfInBounds_toArray, List.set_cons_succ, List.set_cons_zero]); (repeat ((fail); (try simp only [Act.put, List.setIfInBounds_toArray, List.set_cons_succ, List.set_cons_zero]))); refine wpQuiet_nil ?_; clear hcl hf hne hs f X; intro w hs
    go_wp2_with fail
    refine end_end0 rfl rfl ⟨rfl, ?_⟩
    have e5 : (lvs (ps.take f ++ (ps.drop (f + m)).take (k - m) ++ ps.drop (f + (k - m)))).take (f + (k - m)) ++ lvs pf ++ (lvs (ps.take f ++ (ps.drop (f + m)).take (k - m) ++ ps.drop (f + (k - m)))).drop (f + (k - m) + m) = lvs (upL ps f k m pf) := by
      rw [lvs_mid, upL_is ps hmk (by rw [HO.out.2]; exact hf) HPF.out.2]
    rw [flat_mid (lvs2 _) (lvs2 _) (by rw [lvs_len, HPF.out.2] : (lvs pf).length = m), e5] at hs
    have h1 := lrw_up (k := k) hmk (by rw [HO.out.2]; exact hf) (by refine sb_from ?_ hs; repeat constructor : sat W (lrw 96 ps :: lrw 96 pf :: cel b 46 [.pointer (some ⟨s, 0, none⟩), .bool keeps, .int .i64 cols, .slice (some ⟨g, 0, none⟩) N p, .int .i64 top, .int .i64 bot] :: own 81 2 (.slice (some ⟨g, 0, none⟩) N p) N (lvs (upL ps f k m pf)).flatten :: stP s most (nx + m) (pushs most SL ((L.drop f).take m)) :: H) w)
    have HO2 : Hid ((upL ps f k m pf).map PL.ln = upL L f k m (frL m nx (frC cols ⟨fg, bg, fl⟩)) ∧ (upL ps f k m pf).length = N) := Lib.hid ⟨by rw [upL_map, HO.out.1, HPF.out.1], by rw [upL_len ps hmk (by rw [HO.out.2]; exact hf) HPF.out.2, HO.out.2]⟩
    exact ⟨_, HO2, by refine sb_from ?_ h1; repeat constructor⟩
  · by_cases hc2 : p - f = k - m
    · have HM0 : Hid (m = 0) := Lib.hid (by omega)
      go_upto_region 5 with (((with_reducible refine isl ?_); first | ((with_reducible apply cpyr (i := f) (j := f + m) (q := k - m) hs.b1); exact rfl; exact rfl; exact rfl; (rw [Nat.add_mul]; exact rfl); exact Try.underlying44; exact size81; exact lvs2 _; exact HLE.out; exact lvs_row1; exact HQ.out; exact hfm; exact hfm2; clear hs; intro w hs; rw [HS.out] at hs)))
      refine region_mix [([0, 1, 2, 3, 4, 5, 6, 7, 8], [9]), ([], [10])] [] hs (fun _ h => by (show sat W [cel z5 25 [.int .u32 fg, .int .u32 bg, .int .u16 fl]] _; refine sb_from ?_ h; repeat constructor)) (by kernel_rfl) (by kernel_rfl) (fun _ _ _ _ _ h => h) ?_
      simp only [segs, nths, nth, List.append_nil, List.nil_append, List.cons_append, List.map_cons, List.map_nil]
      refine seg_reads (fun _ h => by (show sat W [cel z5 25 [.int .u32 fg, .int .u32 bg, .int .u16 fl]] _; refine sb_from ?_ h; repeat constructor)) ?_; intro X f hne hf hcl; (try simp only [Act.put, List.setIfInBounds_toArray, List.set_cons_succ, List.set_cons_zero]); (repeat ((first | ((with_reducible apply ldsqx 3); exact rfl; exact rfl; exact rfl; (exact fun x => (hf x).b0); exact row33; exact rfl; exact rfl) | go_big_quiet_step (fail)); (try simp only [Act.put, List.setIfInBounds_toArray, List.set_cons_succ, List.set_cons_zero]))); refine wpQuiet_nil ?_; clear hcl hf hne hs f X; intro w hs
      go_wp2_with ((go_at_call 45; refine (fresh45 (n := m) (nx := nx) (cols := cols) (s := s) (most := most) (SL := (pushs most SL ((L.drop f).take m))) (at_ := ⟨fg, bg, fl⟩) HM5.out c0 HC1.out hnx (by have h1 := HB.out; have h2 := HM5.out; omega) (by (apply sk_from (hs := hs); repeat constructor))).mono ?_; clear hs; rintro e w ⟨g2, rfl, hs⟩; obtain ⟨pf, hpf1, hpf2, hs⟩ := ln_open (frL_len _ _ _) hs; have HPF := Lib.hid (And.intro hpf1 hpf2); have HLF := Lib.hid (show (lvs pf).flatten.length = Nat.min m m * 2 by rw [lvs_size, hpf2, HM.out]); clear hpf1 hpf2; replace hs : sat W (own 81 2 (.slice (some ⟨g, 0, none⟩) N p) N (lvs (ps.take f ++ (ps.drop (f + m)).take (k - m) ++ ps.drop (f + (k - m)))).flatten :: own 81 2 (.slice (some ⟨g2, 0, none⟩) m m) m (lvs pf).flatten :: lrw 96 pf :: cel b 46 [.pointer (some ⟨s, 0, none⟩), .bool keeps, .int .i64 cols, .slice (some ⟨g, 0, none⟩) N p, .int .i64 top, .int .i64 bot] :: stP s most (nx + m) (pushs most SL ((L.drop f).take m)) :: lrw 96 ps :: cel z5 25 [.int .u32 fg, .int .u32 bg, .int .u16 fl] :: H) w := by refine sb_from ?_ hs; repeat constructor))
      (refine seg_on hs (fun _ h => h) ?_ ?_)
      · exact fun _ h => by (show sat W [cel z5 25 [.int .u32 fg, .int .u32 bg, .int .u16 fl]] _; refine sb_from ?_ h; repeat constructor)
      clear hs; intro hs
      refine seg_reads (fun _ h => by (show sat W [cel z5 25 [.int .u32 fg, .int .u32 bg, .int .u16 fl]] _; refine sb_from ?_ h; repeat constructor)) ?_; intro X f hne hf hcl; (try simp only [Act.put, List.setIfInBounds_toArray, List.set_cons_succ, List.set_cons_zero]); (repeat ((fail); (try simp only [Act.put, List.setIfInBounds_toArray, List.set_cons_succ, List.set_cons_zero]))); refine wpQuiet_nil ?_; clear hcl hf hne hs f X; intro w hs
      go_wp2_with (((with_reducible refine isl ?_); first | ((with_reducible apply cpyw (i := f) (news := (lvs pf).flatten) (ad := ⟨g2, 0, none⟩) hs); exact rfl; exact rfl; exact rfl; exact rfl; exact Try.underlying44; exact size81; exact HLF.out; exact (fun j u hu => by rw [Go.Mem.add_none, Nat.zero_add]; exact hs.b1.own_cell hu); exact lvs_one; (rw [HM.out]; omega); clear hs; intro w hs)))
      (refine seg_on hs (fun _ h => h) ?_ ?_)
      · exact fun _ h => by (show sat W [cel z5 25 [.int .u32 fg, .int .u32 bg, .int .u16 fl]] _; refine sb_from ?_ h; repeat constructor)
      clear hs; intro hs
      refine seg_last (fun _ h => by (show sat W [cel z5 25 [.int .u32 fg, .int .u32 bg, .int .u16 fl]] _; refine sb_from ?_ h; repeat constructor)) ?_; intro X f hne hf hcl; (try simp only [Act.put, List.setIfInBounds_toArray, List.set_cons_succ, List.set_cons_zero]); (repeat ((fail); (try simp only [Act.put, List.setIfInBounds_toArray, List.set_cons_succ, List.set_cons_zero]))); refine wpQuiet_nil ?_; clear hcl hf hne hs f X; intro w hs
      go_wp2_with fail
      refine end_end0 rfl rfl ⟨rfl, ?_⟩
      have e5 : (lvs (ps.take f ++ (ps.drop (f + m)).take (k - m) ++ ps.drop (f + (k - m)))).take f ++ lvs pf ++ (lvs (ps.take f ++ (ps.drop (f + m)).take (k - m) ++ ps.drop (f + (k - m)))).drop (f + m) = lvs (upL ps f k m pf) := by
        have hpf0 : pf = [] := List.eq_nil_of_length_eq_zero (by rw [HPF.out.2]; exact HM0.out)
        rw [lvs_mid, ← upL_is ps hmk (by rw [HO.out.2]; exact hf) HPF.out.2, hpf0]
        generalize ps.take f ++ (ps.drop (f + m)).take (k - m) ++ ps.drop (f + (k - m)) = Y
        have hm0 := HM0.out
        subst hm0
        rw [List.append_nil, List.append_nil, Nat.add_zero, Nat.add_zero, List.take_append_drop, List.take_append_drop]
      rw [flat_mid (lvs2 _) (lvs2 _) (by rw [lvs_len, HPF.out.2] : (lvs pf).length = m), e5] at hs
      have h1 := lrw_up (k := k) hmk (by rw [HO.out.2]; exact hf) (by refine sb_from ?_ hs; repeat constructor : sat W (lrw 96 ps :: lrw 96 pf :: cel b 46 [.pointer (some ⟨s, 0, none⟩), .bool keeps, .int .i64 cols, .slice (some ⟨g, 0, none⟩) N p, .int .i64 top, .int .i64 bot] :: own 81 2 (.slice (some ⟨g, 0, none⟩) N p) N (lvs (upL ps f k m pf)).flatten :: stP s most (nx + m) (pushs most SL ((L.drop f).take m)) :: H) w)
      have HO2 : Hid ((upL ps f k m pf).map PL.ln = upL L f k m (frL m nx (frC cols ⟨fg, bg, fl⟩)) ∧ (upL ps f k m pf).length = N) := Lib.hid ⟨by rw [upL_map, HO.out.1, HPF.out.1], by rw [upL_len ps hmk (by rw [HO.out.2]; exact hf) HPF.out.2, HO.out.2]⟩
      exact ⟨_, HO2, by refine sb_from ?_ h1; repeat constructor⟩
    · go_upto_region 5 with (((with_reducible refine isl ?_); first | ((with_reducible apply cpyr (i := f) (j := f + m) (q := k - m) hs.b1); exact rfl; exact rfl; exact rfl; (rw [Nat.add_mul]; exact rfl); exact Try.underlying44; exact size81; exact lvs2 _; exact HLE.out; exact lvs_row1; exact HQ.out; exact hfm; exact hfm2; clear hs; intro w hs; rw [HS.out] at hs)))
      refine region_mix [([0, 1, 2, 3, 4, 5, 6, 7, 8], [9]), ([], [10])] [] hs (fun _ h => by (show sat W [cel z5 25 [.int .u32 fg, .int .u32 bg, .int .u16 fl]] _; refine sb_from ?_ h; repeat constructor)) (by kernel_rfl) (by kernel_rfl) (fun _ _ _ _ _ h => h) ?_
      simp only [segs, nths, nth, List.append_nil, List.nil_append, List.cons_append, List.map_cons, List.map_nil]
      refine seg_reads (fun _ h => by (show sat W [cel z5 25 [.int .u32 fg, .int .u32 bg, .int .u16 fl]] _; refine sb_from ?_ h; repeat constructor)) ?_; intro X f hne hf hcl; (try simp only [Act.put, List.setIfInBounds_toArray, List.set_cons_succ, List.set_cons_zero]); (repeat ((first | ((with_reducible apply ldsqx 3); exact rfl; exact rfl; exact rfl; (exact fun x => (hf x).b0); exact row33; exact rfl; exact rfl) | go_big_quiet_step (fail)); (try simp only [Act.put, List.setIfInBounds_toArray, List.set_cons_succ, List.set_cons_zero]))); refine wpQuiet_nil ?_; clear hcl hf hne hs f X; intro w hs
      go_wp2_with ((go_at_call 45; refine (fresh45 (n := m) (nx := nx) (cols := cols) (s := s) (most := most) (SL := (pushs most SL ((L.drop f).take m))) (at_ := ⟨fg, bg, fl⟩) HM5.out c0 HC1.out hnx (by have h1 := HB.out; have h2 := HM5.out; omega) (by (apply sk_from (hs := hs); repeat constructor))).mono ?_; clear hs; rintro e w ⟨g2, rfl, hs⟩; obtain ⟨pf, hpf1, hpf2, hs⟩ := ln_open (frL_len _ _ _) hs; have HPF := Lib.hid (And.intro hpf1 hpf2); have HLF := Lib.hid (show (lvs pf).flatten.length = Nat.min m m * 2 by rw [lvs_size, hpf2, HM.out]); clear hpf1 hpf2; replace hs : sat W (own 81 2 (.slice (some ⟨g, 0, none⟩) N p) N (lvs (ps.take f ++ (ps.drop (f + m)).take (k - m) ++ ps.drop (f + (k - m)))).flatten :: own 81 2 (.slice (some ⟨g2, 0, none⟩) m m) m (lvs pf).flatten :: lrw 96 pf :: cel b 46 [.pointer (some ⟨s, 0, none⟩), .bool keeps, .int .i64 cols, .slice (some ⟨g, 0, none⟩) N p, .int .i64 top, .int .i64 bot] :: stP s most (nx + m) (pushs most SL ((L.drop f).take m)) :: lrw 96 ps :: cel z5 25 [.int .u32 fg, .int .u32 bg, .int .u16 fl] :: H) w := by refine sb_from ?_ hs; repeat constructor))
      (refine seg_on hs (fun _ h => h) ?_ ?_)
      · exact fun _ h => by (show sat W [cel z5 25 [.int .u32 fg, .int .u32 bg, .int .u16 fl]] _; refine sb_from ?_ h; repeat constructor)
      clear hs; intro hs
      refine seg_reads (fun _ h => by (show sat W [cel z5 25 [.int .u32 fg, .int .u32 bg, .int .u16 fl]] _; refine sb_from ?_ h; repeat constructor)) ?_; intro X f hne hf hcl; (try simp only [Act.put, List.setIfInBounds_toArray, List.set_cons_succ, List.set_cons_zero]); (repeat ((fail); (try simp only [Act.put, List.setIfInBounds_toArray, List.set_cons_succ, List.set_cons_zero]))); refine wpQuiet_nil ?_; clear hcl hf hne hs f X; intro w hs
      go_wp2_with (((with_reducible refine isl ?_); first | ((with_reducible apply cpyw (i := f + (k - m)) (news := (lvs pf).flatten) (ad := ⟨g2, 0, none⟩) hs); exact rfl; exact rfl; (rw [Nat.add_mul]; exact rfl); exact rfl; exact Try.underlying44; exact size81; exact HLF.out; exact (fun j u hu => by rw [Go.Mem.add_none, Nat.zero_add]; exact hs.b1.own_cell hu); exact lvs_one; (rw [HM.out]; omega); clear hs; intro w hs)))
      (refine seg_on hs (fun _ h => h) ?_ ?_)
      · exact fun _ h => by (show sat W [cel z5 25 [.int .u32 fg, .int .u32 bg, .int .u16 fl]] _; refine sb_from ?_ h; repeat constructor)
      clear hs; intro hs
      refine seg_last (fun _ h => by (show sat W [cel z5 25 [.int .u32 fg, .int .u32 bg, .int .u16 fl]] _; refine sb_from ?_ h; repeat constructor)) ?_; intro X f hne hf hcl; (try simp only [Act.put, List.setIfInBounds_toArray, List.set_cons_succ, List.set_cons_zero]); (repeat ((fail); (try simp only [Act.put, List.setIfInBounds_toArray, List.set_cons_succ, List.set_cons_zero]))); refine wpQuiet_nil ?_; clear hcl hf hne hs f X; intro w hs
      go_wp2_with fail
      refine end_end0 rfl rfl ⟨rfl, ?_⟩
      have e5 : (lvs (ps.take f ++ (ps.drop (f + m)).take (k - m) ++ ps.drop (f + (k - m)))).take (f + (k - m)) ++ lvs pf ++ (lvs (ps.take f ++ (ps.drop (f + m)).take (k - m) ++ ps.drop (f + (k - m)))).drop (f + (k - m) + m) = lvs (upL ps f k m pf) := by
        rw [lvs_mid, upL_is ps hmk (by rw [HO.out.2]; exact hf) HPF.out.2]
      rw [flat_mid (lvs2 _) (lvs2 _) (by rw [lvs_len, HPF.out.2] : (lvs pf).length = m), e5] at hs
      have h1 := lrw_up (k := k) hmk (by rw [HO.out.2]; exact hf) (by refine sb_from ?_ hs; repeat constructor : sat W (lrw 96 ps :: lrw 96 pf :: cel b 46 [.pointer (some ⟨s, 0, none⟩), .bool keeps, .int .i64 cols, .slice (some ⟨g, 0, none⟩) N p, .int .i64 top, .int .i64 bot] :: own 81 2 (.slice (some ⟨g, 0, none⟩) N p) N (lvs (upL ps f k m pf)).flatten :: stP s most (nx + m) (pushs most SL ((L.drop f).take m)) :: H) w)
      have HO2 : Hid ((upL ps f k m pf).map PL.ln = upL L f k m (frL m nx (frC cols ⟨fg, bg, fl⟩)) ∧ (upL ps f k m pf).length = N) := Lib.hid ⟨by rw [upL_map, HO.out.1, HPF.out.1], by rw [upL_len ps hmk (by rw [HO.out.2]; exact hf) HPF.out.2, HO.out.2]⟩
      exact ⟨_, HO2, by refine sb_from ?_ h1; repeat constructor⟩
end Go.Proofs.Ytdcagaaanbgcoaa
