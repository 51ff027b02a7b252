/- Law 6: the document's Put. -/
import Derived.Test.YtdcagaaanbgcoaaSf
import Derived.Test.YtdcagaaanbgcoaaV14
namespace Go.Proofs.Ytdcagaaanbgcoaa
open Go.RowKit Go.Mem Go.Cells
variable {W w : World} {H : List HProp}
def putR (l : List C) (k : Int) (x : Int) (wide : Bool) (a : At) : List C × Int :=
  let sz : Int := if wide then 2 else 1
  if ¬ mayC x ∨ k < 0 ∨ (l.length : Int) ≤ k ∨ (l.length : Int) < k + sz then (l, 2)
  else
    let c0 := k.toNat
    let t0 := (k + sz).toNat
    let l2 := wh none ((l.take c0 ++ List.replicate (t0 - c0) (bC At.z) ++ l.drop t0).zip (fst_ (wE c0 t0) l.length))
    if wide then ((l2.set c0 ⟨x, [], 1, a⟩).set (c0 + 1) ⟨0, [], 2, a⟩, 0) else (l2.set c0 ⟨x, [], 0, a⟩, 0)
attribute [local irreducible] rowTy oneTy World.setCell World.setCells World.alloc World.drew World.drewN Calls sat cel own blk old wpQuiet wpList cmb cmb1 rwP cls rws wi wh fst_
theorem put33_no_false {b n : Nat} {l : List C} {k x : Int} {at_ : At} (hn : l.length = n) (h512 : n ≤ 1000) (h : ¬ mayC x ∨ k < 0 ∨ (n : Int) ≤ k ∨ (n : Int) < k + 1) (hs : sat W (rwP 100 b l :: H) w) :
    Calls Try.prog 57 #[.pointer (some ⟨b, 0, none⟩), .int .i64 k, .int .i32 x, .bool false, aV at_] w fun e w' => e = .returned (.int .i64 2) ∧ sat W (rwP 100 b l :: H) w' := by
  obtain ⟨ps, a, p, hps, hs⟩ := rw_open hn hs
  have HP : Hid (ps.length = n ∧ ps.map (·.c) = l) := Lib.hid ⟨by rw [← hn, ← hps, List.length_map], hps⟩
  clear hn hps
  by_cases hm : mayC x
  · have HMY : Hid (decide (mayC x) = true) := Lib.hid (decide_eq_true hm)
    by_cases h1 : k < 0
    · clear h hm
      go_enter Try.func57, Try.ntmps57
      go_wp2_with (first | (go_at_call 76; refine (rune12 hs).mono ?_; clear hs; rintro e w ⟨rfl, hs⟩; rw [HMY.out]) | ((with_reducible refine isl ?_); first | ((with_reducible refine wrap hs ?_); clear hs; (generalize w.heap.size = z4); intro w hs)))
      go_ret
      exact ⟨rfl, by rw [← HP.out.2]; exact rw_close HP.out.1 (by refine sb_from ?_ hs; repeat constructor)⟩
    · have g1 : decide (k < 0) = false := decide_eq_false h1
      by_cases h2 : (n : Int) ≤ k
      · clear h hm
        go_enter Try.func57, Try.ntmps57
        go_wp2_with (first | (go_at_call 76; refine (rune12 hs).mono ?_; clear hs; rintro e w ⟨rfl, hs⟩; rw [HMY.out]) | ((with_reducible refine isl ?_); first | ((with_reducible apply ldx); exact rfl; exact rfl; exact rfl; (exact hs.b1); exact rfl; kernel_rfl) | ((with_reducible refine wrap hs ?_); clear hs; (generalize w.heap.size = z4); intro w hs)))
        go_ret
        exact ⟨rfl, by rw [← HP.out.2]; exact rw_close HP.out.1 (by refine sb_from ?_ hs; repeat constructor)⟩
      · have g2 : ¬ (n : Int) ≤ k := h2
        have g22 : decide ((n : Int) ≤ k) = false := decide_eq_false h2
        have h3 : (n : Int) < k + 1 := by rcases h with h | h | h | h; exact absurd hm h; exact absurd h h1; exact absurd h h2; exact h
        have g33 : decide ((n : Int) < k + 1) = true := decide_eq_true h3
        exfalso
        omega
  · have HMY : Hid (decide (mayC x) = false) := Lib.hid (decide_eq_false hm)
    clear h hm
    go_enter Try.func57, Try.ntmps57
    go_wp2_with (first | (go_at_call 76; refine (rune12 hs).mono ?_; clear hs; rintro e w ⟨rfl, hs⟩; rw [HMY.out]) | ((with_reducible refine isl ?_); first | ((with_reducible refine wrap hs ?_); clear hs; (generalize w.heap.size = z4); intro w hs)))
    go_ret
    exact ⟨rfl, by rw [← HP.out.2]; exact rw_close HP.out.1 (by refine sb_from ?_ hs; repeat constructor)⟩
theorem put33_no_true {b n : Nat} {l : List C} {k x : Int} {at_ : At} (hn : l.length = n) (h512 : n ≤ 1000) (h : ¬ mayC x ∨ k < 0 ∨ (n : Int) ≤ k ∨ (n : Int) < k + 2) (hs : sat W (rwP 100 b l :: H) w) :
    Calls Try.prog 57 #[.pointer (some ⟨b, 0, none⟩), .int .i64 k, .int .i32 x, .bool true, aV at_] w fun e w' => e = .returned (.int .i64 2) ∧ sat W (rwP 100 b l :: H) w' := by
  obtain ⟨ps, a, p, hps, hs⟩ := rw_open hn hs
  have HP : Hid (ps.length = n ∧ ps.map (·.c) = l) := Lib.hid ⟨by rw [← hn, ← hps, List.length_map], hps⟩
  clear hn hps
  by_cases hm : mayC x
  · have HMY : Hid (decide (mayC x) = true) := Lib.hid (decide_eq_true hm)
    by_cases h1 : k < 0
    · clear h hm
      go_enter Try.func57, Try.ntmps57
      go_wp2_with (first | (go_at_call 76; refine (rune12 hs).mono ?_; clear hs; rintro e w ⟨rfl, hs⟩; rw [HMY.out]) | ((with_reducible refine isl ?_); first | ((with_reducible refine wrap hs ?_); clear hs; (generalize w.heap.size = z4); intro w hs)))
      go_ret
      exact ⟨rfl, by rw [← HP.out.2]; exact rw_close HP.out.1 (by refine sb_from ?_ hs; repeat constructor)⟩
    · have g1 : decide (k < 0) = false := decide_eq_false h1
      by_cases h2 : (n : Int) ≤ k
      · clear h hm
        go_enter Try.func57, Try.ntmps57
        go_wp2_with (first | (go_at_call 76; refine (rune12 hs).mono ?_; clear hs; rintro e w ⟨rfl, hs⟩; rw [HMY.out]) | ((with_reducible refine isl ?_); first | ((with_reducible apply ldx); exact rfl; exact rfl; exact rfl; (exact hs.b1); exact rfl; kernel_rfl) | ((with_reducible refine wrap hs ?_); clear hs; (generalize w.heap.size = z4); intro w hs)))
        go_ret
        exact ⟨rfl, by rw [← HP.out.2]; exact rw_close HP.out.1 (by refine sb_from ?_ hs; repeat constructor)⟩
      · have g2 : ¬ (n : Int) ≤ k := h2
        have g22 : decide ((n : Int) ≤ k) = false := decide_eq_false h2
        have h3 : (n : Int) < k + 2 := by rcases h with h | h | h | h; exact absurd hm h; exact absurd h h1; exact absurd h h2; exact h
        have g33 : decide ((n : Int) < k + 2) = true := decide_eq_true h3
        clear h hm
        go_enter Try.func57, Try.ntmps57
        go_wp2_with (first | (go_at_call 76; refine (rune12 hs).mono ?_; clear hs; rintro e w ⟨rfl, hs⟩; rw [HMY.out]) | ((with_reducible refine isl ?_); first | ((with_reducible apply ldx); exact rfl; exact rfl; exact rfl; (exact hs.b1); exact rfl; kernel_rfl) | ((with_reducible refine wrap hs ?_); clear hs; (generalize w.heap.size = z4); intro w hs)))
        go_ret
        exact ⟨rfl, by rw [← HP.out.2]; exact rw_close HP.out.1 (by refine sb_from ?_ hs; repeat constructor)⟩
  · have HMY : Hid (decide (mayC x) = false) := Lib.hid (decide_eq_false hm)
    clear h hm
    go_enter Try.func57, Try.ntmps57
    go_wp2_with (first | (go_at_call 76; refine (rune12 hs).mono ?_; clear hs; rintro e w ⟨rfl, hs⟩; rw [HMY.out]) | ((with_reducible refine isl ?_); first | ((with_reducible refine wrap hs ?_); clear hs; (generalize w.heap.size = z4); intro w hs)))
    go_ret
    exact ⟨rfl, by rw [← HP.out.2]; exact rw_close HP.out.1 (by refine sb_from ?_ hs; repeat constructor)⟩
set_option maxHeartbeats 1000000 in
theorem put33_false {b n c0 : Nat} {l : List C} {x : Int} {at_ : At} (hn : l.length = n) (h512 : n ≤ 1000) (hm : mayC x) (hk : c0 + 1 ≤ n) (hs : sat W (rwP 100 b l :: H) w) :
    Calls Try.prog 57 #[.pointer (some ⟨b, 0, none⟩), .int .i64 (c0 : Int), .int .i32 x, .bool false, aV at_] w fun e w' => e = .returned (.int .i64 0) ∧ sat W (rwP 100 b (putR l c0 x false at_).1 :: H) w' := by
  have h0 : 0 < n := by omega
  have HMY : Hid (decide (mayC x) = true) := Lib.hid (decide_eq_true hm)
  obtain ⟨ps, a, p, hps, hs⟩ := rw_open hn hs
  have hpn : ps.length = n := by rw [← hn, ← hps, List.length_map]
  obtain ⟨g, rfl⟩ := own_ptr h0 hs.b1
  have HP := Lib.hid (And.intro hpn hps)
  have HQ : Hid (fst_ (qE ps (PC.bl At.z) c0 (c0 + 1)) n = ps.take c0 ++ List.replicate 1 (PC.bl At.z) ++ ps.drop (c0 + 1)) := Lib.hid (by
    have h := qE_is (B := PC.bl At.z) (f := c0) (t := c0 + 1) hpn (by omega) hk
    rwa [show c0 + 1 - c0 = 1 from by omega] at h)
  have HW0 : Hid ((fst_ (wE c0 (c0 + 1)) n).length = n ∧ ∀ k ∈ fst_ (wE c0 (c0 + 1)) n, -2 ≤ k ∧ k ≤ 1000) := Lib.hid ⟨fst_len _ _, fun k hk => by
    unfold fst_ at hk
    obtain ⟨i, hi, rfl⟩ := List.mem_map.1 hk
    have := List.mem_range.1 hi
    unfold wE
    split <;> omega⟩
  obtain ⟨l2, hl2⟩ : ∃ l2, wh none (((ps.take c0 ++ List.replicate 1 (PC.bl At.z) ++ ps.drop (c0 + 1)).map (·.c)).zip (fst_ (wE c0 (c0 + 1)) n)) = l2 := ⟨_, rfl⟩
  have HL2 := Lib.hid hl2
  have HN2 : Hid (l2.length = n) := Lib.hid (by
    rw [← hl2, wh_length, List.length_zip, List.length_map, ← HQ.out, fst_len, fst_len]
    exact Nat.min_self n)
  have HG : Hid ((putR l c0 x false at_).1 = l2.set c0 ⟨x, [], 0, at_⟩) := Lib.hid (by
    unfold putR
    rw [← hl2]
    simp only [Bool.false_eq_true, if_false]
    rw [if_neg (by rw [hn]; rintro (h | h | h | h); exact h hm; omega; omega; omega), Int.toNat_natCast, show ((c0 : Int) + 1).toNat = c0 + 1 from by omega, hn]
    simp only [List.map_append, List.map_take, List.map_drop, List.map_replicate, hps, show c0 + 1 - c0 = 1 from by omega]
    rfl)
  have g1 : decide ((c0 : Int) < 0) = false := decide_eq_false (by omega)
  have g2 : ¬ (n : Int) ≤ (c0 : Int) := by omega
  have g3 : ¬ (n : Int) < (c0 : Int) + 1 := by omega
  have g22 : decide ((n : Int) ≤ (c0 : Int)) = false := decide_eq_false g2
  have g23 : decide (n ≤ c0) = false := decide_eq_false (by omega)
  have g24 : ¬ n ≤ c0 := by omega
  have g33 : decide ((n : Int) < (c0 : Int) + 1) = false := decide_eq_false g3
  have g4 : (c0 : Int) < (n : Int) := by omega
  have hc9 : c0 < n := by omega
  clear hm hn hl2 hpn hps
  go_enter Try.func57, Try.ntmps57
  go_wp2_with (first | (go_at_call 76; refine (rune12 hs).mono ?_; clear hs; rintro e w ⟨rfl, hs⟩; rw [HMY.out]) | ((with_reducible refine isl ?_); first | ((with_reducible apply ldx); exact rfl; exact rfl; exact rfl; (exact hs.b1); exact rfl; kernel_rfl) | ((with_reducible refine wrap hs ?_); clear hs; (generalize w.heap.size = z4); intro w hs)))
  have hs := (hs.own_nil 110 6).own_nil 3 1
  go_loopw [14, 12, 13] (fun i v u wx => ∃ (i0 : Nat) (a1 a2 : Option Addr) (c1 c2 : Nat), i0 ≤ n ∧ i = .int .i64 (i0 : Int) ∧ v = .slice a1 i0 c1 ∧ u = .slice a2 i0 c2 ∧ sat W (own 3 1 (.slice a2 i0 c2) i0 (wi (fst_ (wE c0 (c0 + 1)) i0)) :: own 110 6 (.slice a1 i0 c1) i0 (rws (fst_ (qE ps (PC.bl At.z) c0 (c0 + 1)) i0)).flatten :: cel z4 25 (aC at_) :: cel b 100 [.slice (some ⟨g, 0, none⟩) n p] :: own 110 6 (.slice (some ⟨g, 0, none⟩) n p) n (rws ps).flatten :: cmb ps :: H) wx) (fun i _ _ _ => ((n : Int) - intOf i).toNat)
  case atStart => exact ⟨0, none, none, 0, 0, Nat.zero_le _, rfl, rfl, rfl, by rw [fst_zero_rws, fst_zero_wi]; refine sb_from ?_ hs; repeat constructor⟩
  case round =>
    clear hs
    obtain ⟨i0, a1, a2, c1, c2, hi, rfl, rfl, rfl, hs⟩ := hrel
    by_cases hin : i0 < n
    · by_cases k1 : c0 ≤ i0 ∧ i0 < c0 + 1
      · have g5 : (c0 : Int) ≤ (i0 : Int) := by omega
        have g6 : (i0 : Int) < (c0 : Int) + 1 := by omega
        have g7 : c0 ≤ i0 := k1.1
        have HAP : Hid ((rws (fst_ (qE ps (PC.bl At.z) c0 (c0 + 1)) i0)).flatten ++ [.int .i32 32, .slice none 0 0, .int .u8 0, .int .u32 0, .int .u32 0, .int .u16 0] = (rws (fst_ (qE ps (PC.bl At.z) c0 (c0 + 1)) (i0 + 1))).flatten) := Lib.hid (fst_rws _ i0 (x := PC.bl At.z) (by unfold qE; rw [if_pos k1]))
        have HAW : Hid (wi (fst_ (wE c0 (c0 + 1)) i0) ++ [.int .i64 (-1)] = wi (fst_ (wE c0 (c0 + 1)) (i0 + 1))) := Lib.hid (fst_wi _ i0 (by unfold wE; rw [if_pos k1]))
        go_wp2_with (first | (((with_reducible apply app (T' := 110) hs.b2); exact rfl; exact rfl; exact rfl; exact rfl; exact slty37; exact rfl; exact rfl; decide; omega; (unfold maxLen; omega); clear hs; intro a9 c9 w hs; rw [HAP.out] at hs)) | (((with_reducible apply app (T' := 3) hs.b2); exact rfl; exact rfl; exact rfl; exact rfl; exact slty81; exact rfl; exact rfl; decide; omega; (unfold maxLen; omega); clear hs; intro a8 c8 w hs; rw [HAW.out] at hs)) | ((with_reducible refine isl ?_); first | ((with_reducible apply ldx); exact rfl; exact rfl; exact rfl; (exact hs.b3); exact rfl; kernel_rfl) | ((with_reducible refine wrap hs ?_); clear hs; intro w hs)))
        go_roundw
        case rel => exact ⟨i0 + 1, _, _, _, _, by omega, by go_num, rfl, rfl, by refine sb_from ?_ hs; repeat constructor⟩
        case measure => simp [intOf]; omega
      · by_cases k2 : c0 ≤ i0
        · have g5 : (c0 : Int) ≤ (i0 : Int) := by omega
          have g6 : ¬ (i0 : Int) < (c0 : Int) + 1 := by omega
          obtain ⟨x9, hx⟩ : ∃ x9, ps[i0]? = some x9 := ⟨_, List.getElem?_eq_getElem (by rw [HP.out.1]; omega)⟩
          obtain ⟨⟨r, cb, wd, az⟩, xa, xp⟩ := x9
          have HAP : Hid ((rws (fst_ (qE ps (PC.bl At.z) c0 (c0 + 1)) i0)).flatten ++ cV ⟨r, cb, wd, az⟩ (.slice xa cb.length xp) = (rws (fst_ (qE ps (PC.bl At.z) c0 (c0 + 1)) (i0 + 1))).flatten) := Lib.hid (fst_rws _ i0 (x := ⟨⟨r, cb, wd, az⟩, xa, xp⟩) (by unfold qE; rw [if_neg k1]; exact PC.at_get hx))
          have HAW : Hid (wi (fst_ (wE c0 (c0 + 1)) i0) ++ [.int .i64 (i0 : Int)] = wi (fst_ (wE c0 (c0 + 1)) (i0 + 1))) := Lib.hid (fst_wi _ i0 (by unfold wE; rw [if_neg k1]))
          have HX : Hid ((rws ps)[i0]? = some [.int .i32 r, .slice xa cb.length xp, .int .u8 wd, .int .u32 az.fg, .int .u32 az.bg, .int .u16 az.fl]) := Lib.hid (rws_get hx)
          clear hx
          go_wp2_with (first | (((with_reducible apply app (T' := 110) hs.b2); exact rfl; exact rfl; exact rfl; exact rfl; exact slty37; exact rfl; exact rfl; decide; omega; (unfold maxLen; omega); clear hs; intro a9 c9 w hs; rw [HAP.out] at hs)) | (((with_reducible apply app (T' := 3) hs.b2); exact rfl; exact rfl; exact rfl; exact rfl; exact slty81; exact rfl; exact rfl; decide; omega; (unfold maxLen; omega); clear hs; intro a8 c8 w hs; rw [HAW.out] at hs)) | (((with_reducible apply ldor hs.b4); exact rfl; exact rfl; exact rfl; exact HX.out; exact rws6 _; exact row41)) | ((with_reducible refine isl ?_); first | ((with_reducible apply ldx); exact rfl; exact rfl; exact rfl; (exact hs.b3); exact rfl; kernel_rfl) | ((with_reducible refine wrap hs ?_); clear hs; intro w hs)))
          go_roundw
          case rel => exact ⟨i0 + 1, _, _, _, _, by omega, by go_num, rfl, rfl, by refine sb_from ?_ hs; repeat constructor⟩
          case measure => simp [intOf]; omega
        · have g5 : ¬ (c0 : Int) ≤ (i0 : Int) := by omega
          obtain ⟨x9, hx⟩ : ∃ x9, ps[i0]? = some x9 := ⟨_, List.getElem?_eq_getElem (by rw [HP.out.1]; omega)⟩
          obtain ⟨⟨r, cb, wd, az⟩, xa, xp⟩ := x9
          have HAP : Hid ((rws (fst_ (qE ps (PC.bl At.z) c0 (c0 + 1)) i0)).flatten ++ cV ⟨r, cb, wd, az⟩ (.slice xa cb.length xp) = (rws (fst_ (qE ps (PC.bl At.z) c0 (c0 + 1)) (i0 + 1))).flatten) := Lib.hid (fst_rws _ i0 (x := ⟨⟨r, cb, wd, az⟩, xa, xp⟩) (by unfold qE; rw [if_neg k1]; exact PC.at_get hx))
          have HAW : Hid (wi (fst_ (wE c0 (c0 + 1)) i0) ++ [.int .i64 (i0 : Int)] = wi (fst_ (wE c0 (c0 + 1)) (i0 + 1))) := Lib.hid (fst_wi _ i0 (by unfold wE; rw [if_neg k1]))
          have HX : Hid ((rws ps)[i0]? = some [.int .i32 r, .slice xa cb.length xp, .int .u8 wd, .int .u32 az.fg, .int .u32 az.bg, .int .u16 az.fl]) := Lib.hid (rws_get hx)
          clear hx
          go_wp2_with (first | (((with_reducible apply app (T' := 110) hs.b2); exact rfl; exact rfl; exact rfl; exact rfl; exact slty37; exact rfl; exact rfl; decide; omega; (unfold maxLen; omega); clear hs; intro a9 c9 w hs; rw [HAP.out] at hs)) | (((with_reducible apply app (T' := 3) hs.b2); exact rfl; exact rfl; exact rfl; exact rfl; exact slty81; exact rfl; exact rfl; decide; omega; (unfold maxLen; omega); clear hs; intro a8 c8 w hs; rw [HAW.out] at hs)) | (((with_reducible apply ldor hs.b4); exact rfl; exact rfl; exact rfl; exact HX.out; exact rws6 _; exact row41)) | ((with_reducible refine isl ?_); first | ((with_reducible apply ldx); exact rfl; exact rfl; exact rfl; (exact hs.b3); exact rfl; kernel_rfl) | ((with_reducible refine wrap hs ?_); clear hs; intro w hs)))
          go_roundw
          case rel => exact ⟨i0 + 1, _, _, _, _, by omega, by go_num, rfl, rfl, by refine sb_from ?_ hs; repeat constructor⟩
          case measure => simp [intOf]; omega
    · have hge : ¬ (i0 : Int) < (n : Int) := by omega
      obtain rfl : i0 = n := by omega
      clear hin
      go_upto_region 17 with (((with_reducible refine isl ?_); first | ((with_reducible apply ldx); exact rfl; exact rfl; exact rfl; (exact hs.b3); exact rfl; kernel_rfl) | ((with_reducible apply stx); exact rfl; exact rfl; exact rfl; (exact hs.b3); exact rfl; exact rfl; exact rfl; kernel_rfl; exact rfl; clear hs; intro w hs)))
      have HLM : Hid (((ps.take c0 ++ List.replicate 1 (PC.bl At.z) ++ ps.drop (c0 + 1)).map (·.c)).length = i0) := Lib.hid (by rw [List.length_map, ← HQ.out, fst_len])
      have h9 : sat W (rwP 100 b ((ps.take c0 ++ List.replicate 1 (PC.bl At.z) ++ ps.drop (c0 + 1)).map (·.c)) :: own 3 1 (.slice a2 i0 c2) i0 (wi (fst_ (wE c0 (c0 + 1)) i0)) :: cel z4 25 (aC at_) :: H) w := by
        have h6 : sat W (cmb (ps.take (c0 + 1) ++ ps.drop (c0 + 1)) :: cel b 100 [.slice a1 i0 c1] :: own 110 6 (.slice a1 i0 c1) i0 (rws (ps.take c0 ++ List.replicate 1 (PC.bl At.z) ++ ps.drop (c0 + 1))).flatten :: own 3 1 (.slice a2 i0 c2) i0 (wi (fst_ (wE c0 (c0 + 1)) i0)) :: cel z4 25 (aC at_) :: H) w := by
          rw [List.take_append_drop, ← HQ.out]
          refine sb_from ?_ hs; repeat constructor
        have h7 := cmb_split h6
        have h8 := cmb_take c0 h7
        rw [List.take_take, Nat.min_eq_left (by omega)] at h8
        have h10 := cmb_bls (a := At.z) 1 h8.b1
        have h11 := cmb_app h10.b1
        rw [← List.append_assoc] at h11
        exact rw_close (by rw [← HQ.out, fst_len]) (by refine sb_from ?_ h11; repeat constructor)
      clear hs
      go_upto_region 18 with ((go_at_call 77; refine (whole52 HLM.out HW0.out.1 h0 h512 HW0.out.2 h9).mono ?_; clear h9; rintro e w ⟨rfl, hs⟩; rw [HL2.out] at hs))
      obtain ⟨n, hnn⟩ : ∃ n, i0 = n := ⟨_, rfl⟩
      subst hnn
      obtain ⟨qs, a9, p9, hqs, hs⟩ := rw_open HN2.out hs
      have hqn : qs.length = i0 := by rw [← HN2.out, ← hqs, List.length_map]
      obtain ⟨g9, rfl⟩ := own_ptr h0 hs.b1
      have HPQ := Lib.hid (And.intro hqn hqs)
      have HK : Hid (c0 < (rws qs).length) := Lib.hid (by rw [rws_len, hqn]; exact hc9)
      have HS1 : Hid ((rws qs).set c0 (cV ⟨x, [], 0, at_⟩ (.slice none 0 0)) = rws (qs.set c0 ⟨⟨x, [], 0, at_⟩, none, 0⟩)) := Lib.hid (rws_set qs c0 ⟨⟨x, [], 0, at_⟩, none, 0⟩)
      clear hqn hqs
      refine region_mix [([0, 1, 2, 3, 4, 5, 6, 7, 8], [9])] [] hs (fun _ h => by (show sat W [cel b 100 [.slice (some ⟨g9, 0, none⟩) i0 p9], cel z4 25 (aC at_)] _; refine sb_from ?_ h; repeat constructor)) (by kernel_rfl) (by kernel_rfl) (fun _ _ _ _ _ h => h) ?_
      simp only [segs, nths, nth, List.append_nil, List.nil_append, List.cons_append, List.map_cons, List.map_nil]
      refine seg_reads (fun _ h => by (show sat W [cel b 100 [.slice (some ⟨g9, 0, none⟩) i0 p9], cel z4 25 (aC at_)] _; refine sb_from ?_ h; repeat constructor)) ?_; intro X f hne hf hcl; (try simp only [Act.put, List.setIfInBounds_toArray, List.set_cons_succ, List.set_cons_zero]); (repeat ((first | ((with_reducible apply ldsqx 3); exact rfl; exact rfl; exact rfl; (first | exact fun x => (hf x).b0 | exact fun x => (hf x).b1); exact row33; exact rfl; exact rfl) | ((with_reducible apply ldqx); exact rfl; exact rfl; exact rfl; (exact fun x => (hf x).b0); exact rfl; kernel_rfl) | go_big_quiet_step (fail)); (try simp only [Act.put, List.setIfInBounds_toArray, List.set_cons_succ, List.set_cons_zero]))); refine wpQuiet_nil ?_; clear hcl hf hne hs f X; intro w hs
      go_wp2_with ((((with_reducible apply stor hs.b1); exact rfl; exact rfl; exact rfl; exact rfl; exact HK.out; exact rws6 _; exact row41; exact rfl; exact rfl; exact rfl; clear hs; intro w hs; rw [HS1.out] at hs)))
      (refine seg_on hs (fun _ h => h) ?_ ?_)
      · exact fun _ h => by (show sat W [cel b 100 [.slice (some ⟨g9, 0, none⟩) i0 p9], cel z4 25 (aC at_)] _; refine sb_from ?_ h; repeat constructor)
      clear hs; intro hs
      refine seg_last (fun _ h => by (show sat W [cel b 100 [.slice (some ⟨g9, 0, none⟩) i0 p9], cel z4 25 (aC at_)] _; refine sb_from ?_ h; repeat constructor)) ?_; intro X f hne hf hcl; (try simp only [Act.put, List.setIfInBounds_toArray, List.set_cons_succ, List.set_cons_zero]); (repeat ((fail); (try simp only [Act.put, List.setIfInBounds_toArray, List.set_cons_succ, List.set_cons_zero]))); refine wpQuiet_nil ?_; clear hcl hf hne hs f X; intro w hs
      go_wp2_with fail
      go_ret
      refine ⟨rfl, ?_⟩
      rw [HG.out]
      have h6 : sat W (cmb qs :: cel b 100 [.slice (some ⟨g9, 0, none⟩) i0 p9] :: own 110 6 (.slice (some ⟨g9, 0, none⟩) i0 p9) i0 (rws (qs.set c0 ⟨⟨x, [], 0, at_⟩, none, 0⟩)).flatten :: H) w := by refine sb_from ?_ hs; repeat constructor
      have h7 := cmb_setn (i := c0) (c := ⟨x, [], 0, at_⟩) rfl h6
      have h8 := rw_close (ps := qs.set c0 ⟨⟨x, [], 0, at_⟩, none, 0⟩) (T := 100) (b := b) (n := i0) (a := some ⟨g9, 0, none⟩) (p := p9) (by simp only [List.length_set]; exact HPQ.out.1) (by refine sb_from ?_ h7; repeat constructor)
      simp only [List.map_set, HPQ.out.2] at h8
      exact h8
set_option maxHeartbeats 1000000 in
theorem put33_true {b n c0 : Nat} {l : List C} {x : Int} {at_ : At} (hn : l.length = n) (h512 : n ≤ 1000) (hm : mayC x) (hk : c0 + 2 ≤ n) (hs : sat W (rwP 100 b l :: H) w) :
    Calls Try.prog 57 #[.pointer (some ⟨b, 0, none⟩), .int .i64 (c0 : Int), .int .i32 x, .bool true, aV at_] w fun e w' => e = .returned (.int .i64 0) ∧ sat W (rwP 100 b (putR l c0 x true at_).1 :: H) w' := by
  have h0 : 0 < n := by omega
  have HMY : Hid (decide (mayC x) = true) := Lib.hid (decide_eq_true hm)
  obtain ⟨ps, a, p, hps, hs⟩ := rw_open hn hs
  have hpn : ps.length = n := by rw [← hn, ← hps, List.length_map]
  obtain ⟨g, rfl⟩ := own_ptr h0 hs.b1
  have HP := Lib.hid (And.intro hpn hps)
  have HQ : Hid (fst_ (qE ps (PC.bl At.z) c0 (c0 + 2)) n = ps.take c0 ++ List.replicate 2 (PC.bl At.z) ++ ps.drop (c0 + 2)) := Lib.hid (by
    have h := qE_is (B := PC.bl At.z) (f := c0) (t := c0 + 2) hpn (by omega) hk
    rwa [show c0 + 2 - c0 = 2 from by omega] at h)
  have HW0 : Hid ((fst_ (wE c0 (c0 + 2)) n).length = n ∧ ∀ k ∈ fst_ (wE c0 (c0 + 2)) n, -2 ≤ k ∧ k ≤ 1000) := Lib.hid ⟨fst_len _ _, fun k hk => by
    unfold fst_ at hk
    obtain ⟨i, hi, rfl⟩ := List.mem_map.1 hk
    have := List.mem_range.1 hi
    unfold wE
    split <;> omega⟩
  obtain ⟨l2, hl2⟩ : ∃ l2, wh none (((ps.take c0 ++ List.replicate 2 (PC.bl At.z) ++ ps.drop (c0 + 2)).map (·.c)).zip (fst_ (wE c0 (c0 + 2)) n)) = l2 := ⟨_, rfl⟩
  have HL2 := Lib.hid hl2
  have HN2 : Hid (l2.length = n) := Lib.hid (by
    rw [← hl2, wh_length, List.length_zip, List.length_map, ← HQ.out, fst_len, fst_len]
    exact Nat.min_self n)
  have HG : Hid ((putR l c0 x true at_).1 = (l2.set c0 ⟨x, [], 1, at_⟩).set (c0 + 1) ⟨0, [], 2, at_⟩) := Lib.hid (by
    unfold putR
    rw [← hl2]
    simp only [if_true]
    rw [if_neg (by rw [hn]; rintro (h | h | h | h); exact h hm; omega; omega; omega), Int.toNat_natCast, show ((c0 : Int) + 2).toNat = c0 + 2 from by omega, hn]
    simp only [List.map_append, List.map_take, List.map_drop, List.map_replicate, hps, show c0 + 2 - c0 = 2 from by omega]
    rfl)
  have g1 : decide ((c0 : Int) < 0) = false := decide_eq_false (by omega)
  have g2 : ¬ (n : Int) ≤ (c0 : Int) := by omega
  have g3 : ¬ (n : Int) < (c0 : Int) + 2 := by omega
  have g22 : decide ((n : Int) ≤ (c0 : Int)) = false := decide_eq_false g2
  have g23 : decide (n ≤ c0) = false := decide_eq_false (by omega)
  have g24 : ¬ n ≤ c0 := by omega
  have g33 : decide ((n : Int) < (c0 : Int) + 2) = false := decide_eq_false g3
  have g4 : (c0 : Int) < (n : Int) := by omega
  have hc9 : c0 < n := by omega
  clear hm hn hl2 hpn hps
  go_enter Try.func57, Try.ntmps57
  go_wp2_with (first | (go_at_call 76; refine (rune12 hs).mono ?_; clear hs; rintro e w ⟨rfl, hs⟩; rw [HMY.out]) | ((with_reducible refine isl ?_); first | ((with_reducible apply ldx); exact rfl; exact rfl; exact rfl; (exact hs.b1); exact rfl; kernel_rfl) | ((with_reducible refine wrap hs ?_); clear hs; (generalize w.heap.size = z4); intro w hs)))
  have hs := (hs.own_nil 110 6).own_nil 3 1
  go_loopw [14, 12, 13] (fun i v u wx => ∃ (i0 : Nat) (a1 a2 : Option Addr) (c1 c2 : Nat), i0 ≤ n ∧ i = .int .i64 (i0 : Int) ∧ v = .slice a1 i0 c1 ∧ u = .slice a2 i0 c2 ∧ sat W (own 3 1 (.slice a2 i0 c2) i0 (wi (fst_ (wE c0 (c0 + 2)) i0)) :: own 110 6 (.slice a1 i0 c1) i0 (rws (fst_ (qE ps (PC.bl At.z) c0 (c0 + 2)) i0)).flatten :: cel z4 25 (aC at_) :: cel b 100 [.slice (some ⟨g, 0, none⟩) n p] :: own 110 6 (.slice (some ⟨g, 0, none⟩) n p) n (rws ps).flatten :: cmb ps :: H) wx) (fun i _ _ _ => ((n : Int) - intOf i).toNat)
  case atStart => exact ⟨0, none, none, 0, 0, Nat.zero_le _, rfl, rfl, rfl, by rw [fst_zero_rws, fst_zero_wi]; refine sb_from ?_ hs; repeat constructor⟩
  case round =>
    clear hs
    obtain ⟨i0, a1, a2, c1, c2, hi, rfl, rfl, rfl, hs⟩ := hrel
    by_cases hin : i0 < n
    · by_cases k1 : c0 ≤ i0 ∧ i0 < c0 + 2
      · have g5 : (c0 : Int) ≤ (i0 : Int) := by omega
        have g6 : (i0 : Int) < (c0 : Int) + 2 := by omega
        have g7 : c0 ≤ i0 := k1.1
        have HAP : Hid ((rws (fst_ (qE ps (PC.bl At.z) c0 (c0 + 2)) i0)).flatten ++ [.int .i32 32, .slice none 0 0, .int .u8 0, .int .u32 0, .int .u32 0, .int .u16 0] = (rws (fst_ (qE ps (PC.bl At.z) c0 (c0 + 2)) (i0 + 1))).flatten) := Lib.hid (fst_rws _ i0 (x := PC.bl At.z) (by unfold qE; rw [if_pos k1]))
        have HAW : Hid (wi (fst_ (wE c0 (c0 + 2)) i0) ++ [.int .i64 (-1)] = wi (fst_ (wE c0 (c0 + 2)) (i0 + 1))) := Lib.hid (fst_wi _ i0 (by unfold wE; rw [if_pos k1]))
        go_wp2_with (first | (((with_reducible apply app (T' := 110) hs.b2); exact rfl; exact rfl; exact rfl; exact rfl; exact slty37; exact rfl; exact rfl; decide; omega; (unfold maxLen; omega); clear hs; intro a9 c9 w hs; rw [HAP.out] at hs)) | (((with_reducible apply app (T' := 3) hs.b2); exact rfl; exact rfl; exact rfl; exact rfl; exact slty81; exact rfl; exact rfl; decide; omega; (unfold maxLen; omega); clear hs; intro a8 c8 w hs; rw [HAW.out] at hs)) | ((with_reducible refine isl ?_); first | ((with_reducible apply ldx); exact rfl; exact rfl; exact rfl; (exact hs.b3); exact rfl; kernel_rfl) | ((with_reducible refine wrap hs ?_); clear hs; intro w hs)))
        go_roundw
        case rel => exact ⟨i0 + 1, _, _, _, _, by omega, by go_num, rfl, rfl, by refine sb_from ?_ hs; repeat constructor⟩
        case measure => simp [intOf]; omega
      · by_cases k2 : c0 ≤ i0
        · have g5 : (c0 : Int) ≤ (i0 : Int) := by omega
          have g6 : ¬ (i0 : Int) < (c0 : Int) + 2 := by omega
          obtain ⟨x9, hx⟩ : ∃ x9, ps[i0]? = some x9 := ⟨_, List.getElem?_eq_getElem (by rw [HP.out.1]; omega)⟩
          obtain ⟨⟨r, cb, wd, az⟩, xa, xp⟩ := x9
          have HAP : Hid ((rws (fst_ (qE ps (PC.bl At.z) c0 (c0 + 2)) i0)).flatten ++ cV ⟨r, cb, wd, az⟩ (.slice xa cb.length xp) = (rws (fst_ (qE ps (PC.bl At.z) c0 (c0 + 2)) (i0 + 1))).flatten) := Lib.hid (fst_rws _ i0 (x := ⟨⟨r, cb, wd, az⟩, xa, xp⟩) (by unfold qE; rw [if_neg k1]; exact PC.at_get hx))
          have HAW : Hid (wi (fst_ (wE c0 (c0 + 2)) i0) ++ [.int .i64 (i0 : Int)] = wi (fst_ (wE c0 (c0 + 2)) (i0 + 1))) := Lib.hid (fst_wi _ i0 (by unfold wE; rw [if_neg k1]))
          have HX : Hid ((rws ps)[i0]? = some [.int .i32 r, .slice xa cb.length xp, .int .u8 wd, .int .u32 az.fg, .int .u32 az.bg, .int .u16 az.fl]) := Lib.hid (rws_get hx)
          clear hx
          go_wp2_with (first | (((with_reducible apply app (T' := 110) hs.b2); exact rfl; exact rfl; exact rfl; exact rfl; exact slty37; exact rfl; exact rfl; decide; omega; (unfold maxLen; omega); clear hs; intro a9 c9 w hs; rw [HAP.out] at hs)) | (((with_reducible apply app (T' := 3) hs.b2); exact rfl; exact rfl; exact rfl; exact rfl; exact slty81; exact rfl; exact rfl; decide; omega; (unfold maxLen; omega); clear hs; intro a8 c8 w hs; rw [HAW.out] at hs)) | (((with_reducible apply ldor hs.b4); exact rfl; exact rfl; exact rfl; exact HX.out; exact rws6 _; exact row41)) | ((with_reducible refine isl ?_); first | ((with_reducible apply ldx); exact rfl; exact rfl; exact rfl; (exact hs.b3); exact rfl; kernel_rfl) | ((with_reducible refine wrap hs ?_); clear hs; intro w hs)))
          go_roundw
          case rel => exact ⟨i0 + 1, _, _, _, _, by omega, by go_num, rfl, rfl, by refine sb_from ?_ hs; repeat constructor⟩
          case measure => simp [intOf]; omega
        · have g5 : ¬ (c0 : Int) ≤ (i0 : Int) := by omega
          obtain ⟨x9, hx⟩ : ∃ x9, ps[i0]? = some x9 := ⟨_, List.getElem?_eq_getElem (by rw [HP.out.1]; omega)⟩
          obtain ⟨⟨r, cb, wd, az⟩, xa, xp⟩ := x9
          have HAP : Hid ((rws (fst_ (qE ps (PC.bl At.z) c0 (c0 + 2)) i0)).flatten ++ cV ⟨r, cb, wd, az⟩ (.slice xa cb.length xp) = (rws (fst_ (qE ps (PC.bl At.z) c0 (c0 + 2)) (i0 + 1))).flatten) := Lib.hid (fst_rws _ i0 (x := ⟨⟨r, cb, wd, az⟩, xa, xp⟩) (by unfold qE; rw [if_neg k1]; exact PC.at_get hx))
          have HAW : Hid (wi (fst_ (wE c0 (c0 + 2)) i0) ++ [.int .i64 (i0 : Int)] = wi (fst_ (wE c0 (c0 + 2)) (i0 + 1))) := Lib.hid (fst_wi _ i0 (by unfold wE; rw [if_neg k1]))
          have HX : Hid ((rws ps)[i0]? = some [.int .i32 r, .slice xa cb.length xp, .int .u8 wd, .int .u32 az.fg, .int .u32 az.bg, .int .u16 az.fl]) := Lib.hid (rws_get hx)
          clear hx
          go_wp2_with (first | (((with_reducible apply app (T' := 110) hs.b2); exact rfl; exact rfl; exact rfl; exact rfl; exact slty37; exact rfl; exact rfl; decide; omega; (unfold maxLen; omega); clear hs; intro a9 c9 w hs; rw [HAP.out] at hs)) | (((with_reducible apply app (T' := 3) hs.b2); exact rfl; exact rfl; exact rfl; exact rfl; exact slty81; exact rfl; exact rfl; decide; omega; (unfold maxLen; omega); clear hs; intro a8 c8 w hs; rw [HAW.out] at hs)) | (((with_reducible apply ldor hs.b4); exact rfl; exact rfl; exact rfl; exact HX.out; exact rws6 _; exact row41)) | ((with_reducible refine isl ?_); first | ((with_reducible apply ldx); exact rfl; exact rfl; exact rfl; (exact hs.b3); exact rfl; kernel_rfl) | ((with_reducible refine wrap hs ?_); clear hs; intro w hs)))
          go_roundw
          case rel => exact ⟨i0 + 1, _, _, _, _, by omega, by go_num, rfl, rfl, by refine sb_from ?_ hs; repeat constructor⟩
          case measure => simp [intOf]; omega
    · have hge : ¬ (i0 : Int) < (n : Int) := by omega
      obtain rfl : i0 = n := by omega
      clear hin
      go_upto_region 17 with (((with_reducible refine isl ?_); first | ((with_reducible apply ldx); exact rfl; exact rfl; exact rfl; (exact hs.b3); exact rfl; kernel_rfl) | ((with_reducible apply stx); exact rfl; exact rfl; exact rfl; (exact hs.b3); exact rfl; exact rfl; exact rfl; kernel_rfl; exact rfl; clear hs; intro w hs)))
      have HLM : Hid (((ps.take c0 ++ List.replicate 2 (PC.bl At.z) ++ ps.drop (c0 + 2)).map (·.c)).length = i0) := Lib.hid (by rw [List.length_map, ← HQ.out, fst_len])
      have h9 : sat W (rwP 100 b ((ps.take c0 ++ List.replicate 2 (PC.bl At.z) ++ ps.drop (c0 + 2)).map (·.c)) :: own 3 1 (.slice a2 i0 c2) i0 (wi (fst_ (wE c0 (c0 + 2)) i0)) :: cel z4 25 (aC at_) :: H) w := by
        have h6 : sat W (cmb (ps.take (c0 + 2) ++ ps.drop (c0 + 2)) :: cel b 100 [.slice a1 i0 c1] :: own 110 6 (.slice a1 i0 c1) i0 (rws (ps.take c0 ++ List.replicate 2 (PC.bl At.z) ++ ps.drop (c0 + 2))).flatten :: own 3 1 (.slice a2 i0 c2) i0 (wi (fst_ (wE c0 (c0 + 2)) i0)) :: cel z4 25 (aC at_) :: H) w := by
          rw [List.take_append_drop, ← HQ.out]
          refine sb_from ?_ hs; repeat constructor
        have h7 := cmb_split h6
        have h8 := cmb_take c0 h7
        rw [List.take_take, Nat.min_eq_left (by omega)] at h8
        have h10 := cmb_bls (a := At.z) 2 h8.b1
        have h11 := cmb_app h10.b1
        rw [← List.append_assoc] at h11
        exact rw_close (by rw [← HQ.out, fst_len]) (by refine sb_from ?_ h11; repeat constructor)
      clear hs
      go_upto_region 18 with ((go_at_call 77; refine (whole52 HLM.out HW0.out.1 h0 h512 HW0.out.2 h9).mono ?_; clear h9; rintro e w ⟨rfl, hs⟩; rw [HL2.out] at hs))
      obtain ⟨n, hnn⟩ : ∃ n, i0 = n := ⟨_, rfl⟩
      subst hnn
      obtain ⟨qs, a9, p9, hqs, hs⟩ := rw_open HN2.out hs
      have hqn : qs.length = i0 := by rw [← HN2.out, ← hqs, List.length_map]
      obtain ⟨g9, rfl⟩ := own_ptr h0 hs.b1
      have HPQ := Lib.hid (And.intro hqn hqs)
      have HK : Hid (c0 < (rws qs).length) := Lib.hid (by rw [rws_len, hqn]; exact hc9)
      have HS1 : Hid ((rws qs).set c0 (cV ⟨x, [], 0, at_⟩ (.slice none 0 0)) = rws (qs.set c0 ⟨⟨x, [], 0, at_⟩, none, 0⟩)) := Lib.hid (rws_set qs c0 ⟨⟨x, [], 0, at_⟩, none, 0⟩)
      have HX1 : Hid ((rws (qs.set c0 ⟨⟨x, [], 0, at_⟩, none, 0⟩))[c0]? = some (pcV ⟨⟨x, [], 0, at_⟩, none, 0⟩)) := Lib.hid (rws_get (List.getElem?_set_self (by rw [hqn]; exact hc9)))
      have HS2 : Hid ((rws (qs.set c0 ⟨⟨x, [], 0, at_⟩, none, 0⟩)).set c0 ((pcV ⟨⟨x, [], 0, at_⟩, none, 0⟩).set 2 (.int .u8 1)) = rws (qs.set c0 ⟨⟨x, [], 1, at_⟩, none, 0⟩)) := Lib.hid (by
        have h := rws_set (qs.set c0 ⟨⟨x, [], 0, at_⟩, none, 0⟩) c0 ⟨⟨x, [], 1, at_⟩, none, 0⟩
        rw [List.set_set] at h
        exact h)
      have HK2 : Hid (c0 + 1 < (rws (qs.set c0 ⟨⟨x, [], 1, at_⟩, none, 0⟩)).length) := Lib.hid (by rw [rws_len, List.length_set, hqn]; omega)
      have HS3 : Hid ((rws (qs.set c0 ⟨⟨x, [], 1, at_⟩, none, 0⟩)).set (c0 + 1) (cV ⟨0, [], 2, at_⟩ (.slice none 0 0)) = rws ((qs.set c0 ⟨⟨x, [], 1, at_⟩, none, 0⟩).set (c0 + 1) ⟨⟨0, [], 2, at_⟩, none, 0⟩)) := Lib.hid (rws_set (qs.set c0 ⟨⟨x, [], 1, at_⟩, none, 0⟩) (c0 + 1) ⟨⟨0, [], 2, at_⟩, none, 0⟩)
      have g8 : (c0 : Int) + 1 < (i0 : Int) := by omega
      have g9' : (0 : Int) ≤ (c0 : Int) + 1 := by omega
      clear hqn hqs
      refine region_mix [([0, 1, 2, 3, 4, 5, 6, 7, 8], [9])] [] hs (fun _ h => by (show sat W [cel b 100 [.slice (some ⟨g9, 0, none⟩) i0 p9], cel z4 25 (aC at_)] _; refine sb_from ?_ h; repeat constructor)) (by kernel_rfl) (by kernel_rfl) (fun _ _ _ _ _ h => h) ?_
      simp only [segs, nths, nth, List.append_nil, List.nil_append, List.cons_append, List.map_cons, List.map_nil]
      refine seg_reads (fun _ h => by (show sat W [cel b 100 [.slice (some ⟨g9, 0, none⟩) i0 p9], cel z4 25 (aC at_)] _; refine sb_from ?_ h; repeat constructor)) ?_; intro X f hne hf hcl; (try simp only [Act.put, List.setIfInBounds_toArray, List.set_cons_succ, List.set_cons_zero]); (repeat ((first | ((with_reducible apply ldsqx 3); exact rfl; exact rfl; exact rfl; (first | exact fun x => (hf x).b0 | exact fun x => (hf x).b1); exact row33; exact rfl; exact rfl) | ((with_reducible apply ldqx); exact rfl; exact rfl; exact rfl; (exact fun x => (hf x).b0); exact rfl; kernel_rfl) | go_big_quiet_step (fail)); (try simp only [Act.put, List.setIfInBounds_toArray, List.set_cons_succ, List.set_cons_zero]))); refine wpQuiet_nil ?_; clear hcl hf hne hs f X; intro w hs
      go_wp2_with ((((with_reducible apply stor hs.b1); exact rfl; exact rfl; exact rfl; exact rfl; exact HK.out; exact rws6 _; exact row41; exact rfl; exact rfl; exact rfl; clear hs; intro w hs; rw [HS1.out] at hs)))
      (refine seg_on hs (fun _ h => h) ?_ ?_)
      · exact fun _ h => by (show sat W [cel b 100 [.slice (some ⟨g9, 0, none⟩) i0 p9], cel z4 25 (aC at_)] _; refine sb_from ?_ h; repeat constructor)
      clear hs; intro hs
      refine seg_last (fun _ h => by (show sat W [cel b 100 [.slice (some ⟨g9, 0, none⟩) i0 p9], cel z4 25 (aC at_)] _; refine sb_from ?_ h; repeat constructor)) ?_; intro X f hne hf hcl; (try simp only [Act.put, List.setIfInBounds_toArray, List.set_cons_succ, List.set_cons_zero]); (repeat ((fail); (try simp only [Act.put, List.setIfInBounds_toArray, List.set_cons_succ, List.set_cons_zero]))); refine wpQuiet_nil ?_; clear hcl hf hne hs f X; intro w hs
      go_wp2_with (first | (((with_reducible apply stofc hs.b0); exact rfl; exact rfl; exact rfl; exact rfl; exact HX1.out; exact rws6 _; exact rfl; exact one5; exact rfl; clear hs; intro w hs; rw [HS2.out] at hs)) | ((with_reducible refine isl ?_); first | ((with_reducible apply ldx); exact rfl; exact rfl; exact rfl; (exact hs.b1); exact rfl; kernel_rfl)))
      refine region_mix [([0, 1, 2, 3, 4, 5, 6, 7, 8], [9])] [] hs (fun _ h => by (show sat W [cel b 100 [.slice (some ⟨g9, 0, none⟩) i0 p9], cel z4 25 (aC at_)] _; refine sb_from ?_ h; repeat constructor)) (by kernel_rfl) (by kernel_rfl) (fun _ _ _ _ _ h => h) ?_
      simp only [segs, nths, nth, List.append_nil, List.nil_append, List.cons_append, List.map_cons, List.map_nil]
      refine seg_reads (fun _ h => by (show sat W [cel b 100 [.slice (some ⟨g9, 0, none⟩) i0 p9], cel z4 25 (aC at_)] _; refine sb_from ?_ h; repeat constructor)) ?_; intro X f hne hf hcl; (try simp only [Act.put, List.setIfInBounds_toArray, List.set_cons_succ, List.set_cons_zero]); (repeat ((first | ((with_reducible apply ldsqx 3); exact rfl; exact rfl; exact rfl; (first | exact fun x => (hf x).b0 | exact fun x => (hf x).b1); exact row33; exact rfl; exact rfl) | ((with_reducible apply ldqx); exact rfl; exact rfl; exact rfl; (exact fun x => (hf x).b0); exact rfl; kernel_rfl) | go_big_quiet_step (fail)); (try simp only [Act.put, List.setIfInBounds_toArray, List.set_cons_succ, List.set_cons_zero]))); refine wpQuiet_nil ?_; clear hcl hf hne hs f X; intro w hs
      go_wp2_with ((((with_reducible apply stor hs.b0); exact rfl; exact rfl; exact rfl; exact rfl; exact HK2.out; exact rws6 _; exact row41; exact rfl; exact rfl; exact rfl; clear hs; intro w hs; rw [HS3.out] at hs)))
      (refine seg_on hs (fun _ h => h) ?_ ?_)
      · exact fun _ h => by (show sat W [cel b 100 [.slice (some ⟨g9, 0, none⟩) i0 p9], cel z4 25 (aC at_)] _; refine sb_from ?_ h; repeat constructor)
      clear hs; intro hs
      refine seg_last (fun _ h => by (show sat W [cel b 100 [.slice (some ⟨g9, 0, none⟩) i0 p9], cel z4 25 (aC at_)] _; refine sb_from ?_ h; repeat constructor)) ?_; intro X f hne hf hcl; (try simp only [Act.put, List.setIfInBounds_toArray, List.set_cons_succ, List.set_cons_zero]); (repeat ((fail); (try simp only [Act.put, List.setIfInBounds_toArray, List.set_cons_succ, List.set_cons_zero]))); refine wpQuiet_nil ?_; clear hcl hf hne hs f X; intro w hs
      go_wp2_with fail
      go_ret
      refine ⟨rfl, ?_⟩
      rw [HG.out]
      have h6 : sat W (cmb qs :: cel b 100 [.slice (some ⟨g9, 0, none⟩) i0 p9] :: own 110 6 (.slice (some ⟨g9, 0, none⟩) i0 p9) i0 (rws ((qs.set c0 ⟨⟨x, [], 1, at_⟩, none, 0⟩).set (c0 + 1) ⟨⟨0, [], 2, at_⟩, none, 0⟩)).flatten :: H) w := by refine sb_from ?_ hs; repeat constructor
      have h7 := cmb_setn (i := c0 + 1) (c := ⟨0, [], 2, at_⟩) rfl (cmb_setn (i := c0) (c := ⟨x, [], 1, at_⟩) rfl h6)
      have h8 := rw_close (ps := (qs.set c0 ⟨⟨x, [], 1, at_⟩, none, 0⟩).set (c0 + 1) ⟨⟨0, [], 2, at_⟩, none, 0⟩) (T := 100) (b := b) (n := i0) (a := some ⟨g9, 0, none⟩) (p := p9) (by simp only [List.length_set]; exact HPQ.out.1) (by refine sb_from ?_ h7; repeat constructor)
      simp only [List.map_set, HPQ.out.2] at h8
      exact h8
theorem put33 {b n : Nat} {l : List C} {k x : Int} {wide : Bool} {at_ : At} (hn : l.length = n) (h512 : n ≤ 1000) (hs : sat W (rwP 100 b l :: H) w) :
    Calls Try.prog 57 #[.pointer (some ⟨b, 0, none⟩), .int .i64 k, .int .i32 x, .bool wide, aV at_] w fun e w' => e = .returned (.int .i64 (putR l k x wide at_).2) ∧ sat W (rwP 100 b (putR l k x wide at_).1 :: H) w' := by
  by_cases h : ¬ mayC x ∨ k < 0 ∨ (n : Int) ≤ k ∨ (n : Int) < k + (if wide then 2 else 1)
  · have e : putR l k x wide at_ = (l, 2) := by
      unfold putR
      rw [if_pos (by rw [hn]; exact h)]
    rw [e]
    cases wide with
    | false => exact put33_no_false hn h512 (by simpa using h) hs
    | true => exact put33_no_true hn h512 (by simpa using h) hs
  · have hm : mayC x := by
      by_cases hm : mayC x
      · exact hm
      · exact absurd (.inl hm) h
    have hk0 : 0 ≤ k := by omega
    obtain ⟨c0, rfl⟩ : ∃ c0 : Nat, k = (c0 : Int) := ⟨k.toNat, by omega⟩
    have e : (putR l c0 x wide at_).2 = 0 := by
      unfold putR
      rw [if_neg (by rw [hn]; exact h)]
      simp only
      split <;> rfl
    rw [e]
    cases wide with
    | false => exact put33_false hn h512 hm (by simp at h; omega) hs
    | true => exact put33_true hn h512 hm (by simp at h; omega) hs
end Go.Proofs.Ytdcagaaanbgcoaa
