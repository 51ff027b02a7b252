/- Law 6: the document's Erase. -/
import Derived.Test.YtdcagaaanbgcoaaSf
import Derived.Test.YtdcagaaanbgcoaaV11
namespace Go.Proofs.Ytdcagaaanbgcoaa
open Go.RowKit Go.Mem Go.Cells
variable {W w : World} {H : List HProp}
theorem slty81 : SlTy Try.prog 35 3 1 8 := ⟨Try.underlying35, by obtain ⟨i0, hi, hz0, hz1, hz2⟩ := info_parts (show (Try.prog.info? 3).map (fun i => (i.zero, i.size, i.bytes)) = some (some (.int .i64 0), 1, 8) by kernel_rfl); exact ⟨i0, _, hi, hz0, hz1, hz2, rfl⟩, by decide⟩
/-- The first i of a list that is told by index. -/
def fst_ {α : Type} (f : Nat → α) (i : Nat) : List α := (List.range i).map f
theorem fst_len {α : Type} (f : Nat → α) (i : Nat) : (fst_ f i).length = i := by unfold fst_; rw [List.length_map, List.length_range]
theorem fst_succ {α : Type} (f : Nat → α) (i : Nat) : fst_ f (i + 1) = fst_ f i ++ [f i] := by unfold fst_; rw [List.range_succ, List.map_append]; rfl
theorem fst_get {α : Type} (f : Nat → α) {i j : Nat} (h : j < i) : (fst_ f i)[j]? = some (f j) := by unfold fst_; rw [List.getElem?_map, List.getElem?_range h]; rfl
theorem fst_is {α : Type} {f : Nat → α} {L : List α} (h : ∀ i, i < L.length → L[i]? = some (f i)) : fst_ f L.length = L := by
  apply List.ext_getElem?
  intro i
  by_cases hi : i < L.length
  · rw [fst_get f hi, h i hi]
  · rw [List.getElem?_eq_none (by rw [fst_len]; omega), List.getElem?_eq_none (by omega)]
theorem fst_rws (f : Nat → PC) (i : Nat) {x : PC} (h : f i = x) : (rws (fst_ f i)).flatten ++ pcV x = (rws (fst_ f (i + 1))).flatten := by
  rw [fst_succ, rws_app, List.flatten_append, h]
  show _ = _ ++ ([pcV x] : List (List Value)).flatten
  simp
theorem fst_wi (f : Nat → Int) (i : Nat) {x : Int} (h : f i = x) : wi (fst_ f i) ++ [.int .i64 x] = wi (fst_ f (i + 1)) := by rw [fst_succ, ← wi_app, h]
theorem fst_zero_rws (f : Nat → PC) : (rws (fst_ f 0)).flatten = [] := rfl
theorem fst_zero_wi (f : Nat → Int) : wi (fst_ f 0) = [] := rfl
def PC.at (ps : List PC) (i : Nat) : PC := ps.getD i PC.zero
theorem PC.at_get {ps : List PC} {i : Nat} {x : PC} (h : ps[i]? = some x) : PC.at ps i = x := by unfold PC.at; rw [List.getD_eq_getElem?_getD, h]; rfl
def qE (ps : List PC) (B : PC) (f t : Nat) (i : Nat) : PC := if f ≤ i ∧ i < t then B else PC.at ps i
def wE (f t : Nat) (i : Nat) : Int := if f ≤ i ∧ i < t then -1 else i
theorem qE_is {ps : List PC} {B : PC} {f t n : Nat} (hn : ps.length = n) (hft : f ≤ t) (htn : t ≤ n) : fst_ (qE ps B f t) n = ps.take f ++ List.replicate (t - f) B ++ ps.drop t := by
  have hl : (ps.take f ++ List.replicate (t - f) B ++ ps.drop t).length = n := by
    simp only [List.length_append, List.length_take, List.length_replicate, List.length_drop]; omega
  rw [← hl]
  apply fst_is
  intro i hi
  rw [hl] at hi
  unfold qE
  by_cases h1 : i < f
  · rw [if_neg (by omega), List.append_assoc, List.getElem?_append_left (by rw [List.length_take]; omega), List.getElem?_take, if_pos h1]
    obtain ⟨x, hx⟩ : ∃ x, ps[i]? = some x := ⟨_, List.getElem?_eq_getElem (by omega)⟩
    rw [hx, PC.at_get hx]
  · by_cases h2 : i < t
    · rw [if_pos (by omega), List.getElem?_append_left (by simp only [List.length_append, List.length_take, List.length_replicate]; omega), List.getElem?_append_right (by rw [List.length_take]; omega), List.getElem?_replicate, if_pos (by rw [List.length_take]; omega)]
    · rw [if_neg (by omega), List.getElem?_append_right (by simp only [List.length_append, List.length_take, List.length_replicate]; omega), List.getElem?_drop]
      simp only [List.length_append, List.length_take, List.length_replicate]
      rw [show t + (i - (min f ps.length + (t - f))) = i from by omega]
      obtain ⟨x, hx⟩ : ∃ x, ps[i]? = some x := ⟨_, List.getElem?_eq_getElem (by omega)⟩
      rw [hx, PC.at_get hx]
def eraseR (l : List C) (f t : Int) (a : At) : List C :=
  let f0 := (min (max f 0) (l.length : Int)).toNat
  let t0 := max f0 (min (max t 0) (l.length : Int)).toNat
  wh none ((l.take f0 ++ List.replicate (t0 - f0) (bC (grC a)) ++ l.drop t0).zip (fst_ (wE f0 t0) l.length))
attribute [local irreducible] rowTy oneTy World.setCell World.setCells World.alloc World.drew World.drewN Calls sat cel own blk old wpQuiet wpList cmb cmb1 rwP cls rws wi wh fst_
set_option maxHeartbeats 1000000 in
theorem erase35 {b n : Nat} {l : List C} {f t : Int} {at_ : At} (hn : l.length = n) (h0 : 0 < n) (h512 : n ≤ 1000) (hs : sat W (rwP 100 b l :: H) w) :
    Calls Try.prog 85 #[.pointer (some ⟨b, 0, none⟩), .int .i64 f, .int .i64 t, aV at_] w fun e w' => e = .returned (.tuple #[]) ∧ sat W (rwP 100 b (eraseR l f t at_) :: H) w' := by
  obtain ⟨ps, a, p, hps, hs⟩ := rw_open hn hs
  have hpn : ps.length = n := by rw [← hn, ← hps, List.length_map]
  obtain ⟨g, rfl⟩ := own_ptr h0 hs.b1
  obtain ⟨f0, hf0⟩ : ∃ f0 : Nat, (f0 : Int) = min (max f 0) (n : Int) := ⟨(min (max f 0) (n : Int)).toNat, by omega⟩
  obtain ⟨t1, ht1⟩ : ∃ t1 : Nat, (t1 : Int) = min (max t 0) (n : Int) := ⟨(min (max t 0) (n : Int)).toNat, by omega⟩
  obtain ⟨t0, ht0⟩ : ∃ t0 : Nat, max f0 t1 = t0 := ⟨_, rfl⟩
  have HF1 := Lib.hid hf0.symm
  have HT1 := Lib.hid ht1.symm
  have HP := Lib.hid (And.intro hpn hps)
  have HQ : Hid (fst_ (qE ps (PC.bl (grC at_)) f0 t0) n = ps.take f0 ++ List.replicate (t0 - f0) (PC.bl (grC at_)) ++ ps.drop t0) := Lib.hid (qE_is hpn (by omega) (by omega))
  have HW0 : Hid ((fst_ (wE f0 t0) n).length = n ∧ ∀ k ∈ fst_ (wE f0 t0) n, -2 ≤ k ∧ k ≤ 1000) := Lib.hid ⟨fst_len _ _, fun k hk => by
    unfold fst_ at hk
    obtain ⟨i, hi, rfl⟩ := List.mem_map.1 hk
    have := List.mem_range.1 hi
    unfold wE
    split <;> omega⟩
  have HG : Hid (eraseR l f t at_ = wh none ((ps.take f0 ++ List.replicate (t0 - f0) (PC.bl (grC at_)) ++ ps.drop t0).map (·.c) |>.zip (fst_ (wE f0 t0) n))) := Lib.hid (by
    have ef : (min (max f 0) (l.length : Int)).toNat = f0 := by rw [hn]; omega
    have et : (min (max t 0) (l.length : Int)).toNat = t1 := by rw [hn]; omega
    unfold eraseR
    rw [ef, et]
    simp only
    rw [ht0, hn]
    simp only [List.map_append, List.map_take, List.map_drop, List.map_replicate, hps]
    rfl)
  have HT0 := Lib.hid ht0
  have hf9 : f0 ≤ n := by omega
  clear hf0 ht1 ht0 hpn hps hn
  go_enter Try.func85, Try.ntmps85
  go_upto_region 1 with (((with_reducible refine isl ?_); first | ((with_reducible refine wrap hs ?_); clear hs; (generalize w.heap.size = z4); intro w hs)))
  refine region_mix [([0, 1, 2, 3, 4, 5, 7, 8, 9, 10, 11, 12], [6]), ([], [13])] [14, 15] hs (fun _ h => by (show sat W [cel b 100 [.slice (some ⟨g, 0, none⟩) n p]] _; refine sb_from ?_ h; repeat constructor)) (by kernel_rfl) (by kernel_rfl) (fun _ _ _ _ _ h => h) ?_
  simp only [segs, nths, nth, List.append_nil, List.nil_append, List.cons_append, List.map_cons, List.map_nil]
  refine seg_reads (fun _ h => by (show sat W [cel b 100 [.slice (some ⟨g, 0, none⟩) n p]] _; refine sb_from ?_ h; repeat constructor)) ?_; intro X f hne hf hcl; (try simp only [Act.put, List.setIfInBounds_toArray, List.set_cons_succ, List.set_cons_zero]); (repeat ((first | ((with_reducible apply ldqx); exact rfl; exact rfl; exact rfl; (exact fun x => (hf x).b0); exact rfl; kernel_rfl) | go_big_quiet_step (fail)); (try simp only [Act.put, List.setIfInBounds_toArray, List.set_cons_succ, List.set_cons_zero]))); refine wpQuiet_nil ?_; clear hcl hf hne hs f X; intro w hs
  go_wp2_with ((go_at_call 92; refine (held54 (by omega) hs).mono ?_; clear hs; rintro e w ⟨rfl, hs⟩; (rw [HF1.out])))
  (refine seg_on hs (fun _ h => h) ?_ ?_)
  · exact fun _ h => by (show sat W [cel b 100 [.slice (some ⟨g, 0, none⟩) n p]] _; refine sb_from ?_ h; repeat constructor)
  clear hs; intro hs
  refine seg_reads (fun _ h => by (show sat W [cel b 100 [.slice (some ⟨g, 0, none⟩) n p]] _; refine sb_from ?_ h; repeat constructor)) ?_; intro X f hne hf hcl; (try simp only [Act.put, List.setIfInBounds_toArray, List.set_cons_succ, List.set_cons_zero]); (repeat ((fail); (try simp only [Act.put, List.setIfInBounds_toArray, List.set_cons_succ, List.set_cons_zero]))); refine wpQuiet_nil ?_; clear hcl hf hne hs f X; intro w hs
  go_wp2_with ((go_at_call 92; refine (held54 (by omega) hs).mono ?_; clear hs; rintro e w ⟨rfl, hs⟩; (rw [HT1.out])))
  (refine seg_on hs (fun _ h => h) ?_ ?_)
  · exact fun _ h => by (show sat W [cel b 100 [.slice (some ⟨g, 0, none⟩) n p]] _; refine sb_from ?_ h; repeat constructor)
  clear hs; intro hs
  refine seg_last (fun _ h => by (show sat W [cel b 100 [.slice (some ⟨g, 0, none⟩) n p]] _; refine sb_from ?_ h; repeat constructor)) ?_; intro X f hne hf hcl; (try simp only [Act.put, List.setIfInBounds_toArray, List.set_cons_succ, List.set_cons_zero]); (repeat ((go_big_quiet_step (fail)); (try simp only [Act.put, List.setIfInBounds_toArray, List.set_cons_succ, List.set_cons_zero]))); refine wpQuiet_nil ?_; clear hcl hf hne hs f X; intro w hs
  go_wp2_with fail
  have hs := (hs.own_nil 110 6).own_nil 3 1
  go_loopw [10, 8, 9] (fun i v u wx => ∃ (i0 : Nat) (a1 a2 : Option Addr) (c1 c2 : Nat), i0 ≤ n ∧ i = .int .i64 (i0 : Int) ∧ v = .slice a1 i0 c1 ∧ u = .slice a2 i0 c2 ∧ sat W (own 3 1 (.slice a2 i0 c2) i0 (wi (fst_ (wE f0 t0) i0)) :: own 110 6 (.slice a1 i0 c1) i0 (rws (fst_ (qE ps (PC.bl (grC at_)) f0 t0) i0)).flatten :: cel z4 25 (aC at_) :: cel b 100 [.slice (some ⟨g, 0, none⟩) n p] :: own 110 6 (.slice (some ⟨g, 0, none⟩) n p) n (rws ps).flatten :: cmb ps :: H) wx) (fun i _ _ _ => ((n : Int) - intOf i).toNat)
  case atStart => exact ⟨0, none, none, 0, 0, Nat.zero_le _, rfl, rfl, rfl, by rw [fst_zero_rws, fst_zero_wi]; refine sb_from ?_ hs; repeat constructor⟩
  case round =>
    clear hs
    obtain ⟨i0, a1, a2, c1, c2, hi, rfl, rfl, rfl, hs⟩ := hrel
    by_cases hin : i0 < n
    · obtain ⟨x, hx⟩ : ∃ x, ps[i0]? = some x := ⟨_, List.getElem?_eq_getElem (by rw [HP.out.1]; exact hin)⟩
      by_cases hc : f0 ≤ i0 ∧ i0 < t1
      · have hc2 : f0 ≤ i0 ∧ i0 < t0 := by have := HT0.out; omega
        have HAP : Hid ((rws (fst_ (qE ps (PC.bl (grC at_)) f0 t0) i0)).flatten ++ cV (bC (grC at_)) (.slice none 0 0) = (rws (fst_ (qE ps (PC.bl (grC at_)) f0 t0) (i0 + 1))).flatten) := Lib.hid (fst_rws _ i0 (x := PC.bl (grC at_)) (by unfold qE; rw [if_pos hc2]))
        have HAW : Hid (wi (fst_ (wE f0 t0) i0) ++ [.int .i64 (-1)] = wi (fst_ (wE f0 t0) (i0 + 1))) := Lib.hid (fst_wi _ i0 (by unfold wE; rw [if_pos hc2]))
        have g1 : decide ((f0 : Int) ≤ (i0 : Int)) = true := decide_eq_true (by omega)
        have g2 : decide ((i0 : Int) < (t1 : Int)) = true := decide_eq_true (by omega)
        have g3 : f0 ≤ i0 := hc.1
        have g4 : i0 < t1 := hc.2
        clear hc hc2 hx
        go_wp2_with (first | (((with_reducible apply app (T' := 110) hs.b2); exact rfl; exact rfl; exact rfl; exact rfl; exact slty37; exact rfl; exact rfl; decide; omega; (unfold maxLen; omega); clear hs; intro a9 c9 w hs; rw [HAP.out] at hs)) | (((with_reducible apply app (T' := 3) hs.b2); exact rfl; exact rfl; exact rfl; exact rfl; exact slty81; exact rfl; exact rfl; decide; omega; (unfold maxLen; omega); clear hs; intro a8 c8 w hs; rw [HAW.out] at hs)) | (go_at_call 93; refine (clear17 (a := at_) hs).mono ?_; clear hs; rintro e w ⟨rfl, hs⟩) | ((with_reducible refine isl ?_); first | ((with_reducible apply ldswx); exact rfl; exact rfl; exact rfl; (first | exact hs.b2 | exact hs.b3); exact row33) | ((with_reducible apply ldx); exact rfl; exact rfl; exact rfl; (exact hs.b3); exact rfl; kernel_rfl) | ((with_reducible refine wrap hs ?_); clear hs; intro w hs)))
        go_roundw
        case rel => exact ⟨i0 + 1, _, _, _, _, by omega, by go_num, rfl, rfl, by refine sb_from ?_ hs; repeat constructor⟩
        case measure => simp [intOf]; omega
      · have hc2 : ¬ (f0 ≤ i0 ∧ i0 < t0) := by have := HT0.out; omega
        obtain ⟨⟨r, cb, wd, az⟩, xa, xp⟩ := x
        have HAP : Hid ((rws (fst_ (qE ps (PC.bl (grC at_)) f0 t0) i0)).flatten ++ cV ⟨r, cb, wd, az⟩ (.slice xa cb.length xp) = (rws (fst_ (qE ps (PC.bl (grC at_)) f0 t0) (i0 + 1))).flatten) := Lib.hid (fst_rws _ i0 (x := ⟨⟨r, cb, wd, az⟩, xa, xp⟩) (by unfold qE; rw [if_neg hc2]; exact PC.at_get hx))
        have HAW : Hid (wi (fst_ (wE f0 t0) i0) ++ [.int .i64 (i0 : Int)] = wi (fst_ (wE f0 t0) (i0 + 1))) := Lib.hid (fst_wi _ i0 (by unfold wE; rw [if_neg hc2]))
        have HX : Hid ((rws ps)[i0]? = some [.int .i32 r, .slice xa cb.length xp, .int .u8 wd, .int .u32 az.fg, .int .u32 az.bg, .int .u16 az.fl]) := Lib.hid (rws_get hx)
        by_cases hc3 : f0 ≤ i0
        · have g1 : decide ((f0 : Int) ≤ (i0 : Int)) = true := decide_eq_true (by omega)
          have g2 : decide ((i0 : Int) < (t1 : Int)) = false := decide_eq_false (by omega)
          have g4 : ¬ i0 < t1 := by omega
          clear hc hc2 hx
          go_wp2_with (first | (((with_reducible apply app (T' := 110) hs.b2); exact rfl; exact rfl; exact rfl; exact rfl; exact slty37; exact rfl; exact rfl; decide; omega; (unfold maxLen; omega); clear hs; intro a9 c9 w hs; rw [HAP.out] at hs)) | (((with_reducible apply app (T' := 3) hs.b2); exact rfl; exact rfl; exact rfl; exact rfl; exact slty81; exact rfl; exact rfl; decide; omega; (unfold maxLen; omega); clear hs; intro a8 c8 w hs; rw [HAW.out] at hs)) | (((with_reducible apply ldor hs.b4); exact rfl; exact rfl; exact rfl; exact HX.out; exact rws6 _; exact row41)) | ((with_reducible refine isl ?_); first | ((with_reducible apply ldx); exact rfl; exact rfl; exact rfl; (exact hs.b3); exact rfl; kernel_rfl) | ((with_reducible refine wrap hs ?_); clear hs; intro w hs)))
          go_roundw
          case rel => exact ⟨i0 + 1, _, _, _, _, by omega, by go_num, rfl, rfl, by refine sb_from ?_ hs; repeat constructor⟩
          case measure => simp [intOf]; omega
        · have g1 : decide ((f0 : Int) ≤ (i0 : Int)) = false := decide_eq_false (by omega)
          clear hc hc2 hx
          go_wp2_with (first | (((with_reducible apply app (T' := 110) hs.b2); exact rfl; exact rfl; exact rfl; exact rfl; exact slty37; exact rfl; exact rfl; decide; omega; (unfold maxLen; omega); clear hs; intro a9 c9 w hs; rw [HAP.out] at hs)) | (((with_reducible apply app (T' := 3) hs.b2); exact rfl; exact rfl; exact rfl; exact rfl; exact slty81; exact rfl; exact rfl; decide; omega; (unfold maxLen; omega); clear hs; intro a8 c8 w hs; rw [HAW.out] at hs)) | (((with_reducible apply ldor hs.b4); exact rfl; exact rfl; exact rfl; exact HX.out; exact rws6 _; exact row41)) | ((with_reducible refine isl ?_); first | ((with_reducible apply ldx); exact rfl; exact rfl; exact rfl; (exact hs.b3); exact rfl; kernel_rfl) | ((with_reducible refine wrap hs ?_); clear hs; intro w hs)))
          go_roundw
          case rel => exact ⟨i0 + 1, _, _, _, _, by omega, by go_num, rfl, rfl, by refine sb_from ?_ hs; repeat constructor⟩
          case measure => simp [intOf]; omega
    · have hge : ¬ (i0 : Int) < (n : Int) := by omega
      obtain rfl : i0 = n := by omega
      clear hin
      go_upto_region 13 with (((with_reducible refine isl ?_); first | ((with_reducible apply ldx); exact rfl; exact rfl; exact rfl; (exact hs.b3); exact rfl; kernel_rfl) | ((with_reducible apply stx); exact rfl; exact rfl; exact rfl; (exact hs.b3); exact rfl; exact rfl; exact rfl; kernel_rfl; exact rfl; clear hs; intro w hs)))
      have HLM : Hid (((ps.take f0 ++ List.replicate (t0 - f0) (PC.bl (grC at_)) ++ ps.drop t0).map (·.c)).length = i0) := Lib.hid (by rw [List.length_map, ← HQ.out, fst_len])
      have h9 : sat W (rwP 100 b ((ps.take f0 ++ List.replicate (t0 - f0) (PC.bl (grC at_)) ++ ps.drop t0).map (·.c)) :: own 3 1 (.slice a2 i0 c2) i0 (wi (fst_ (wE f0 t0) i0)) :: H) w := by
        have h6 : sat W (cmb (ps.take t0 ++ ps.drop t0) :: cel b 100 [.slice a1 i0 c1] :: own 110 6 (.slice a1 i0 c1) i0 (rws (ps.take f0 ++ List.replicate (t0 - f0) (PC.bl (grC at_)) ++ ps.drop t0)).flatten :: own 3 1 (.slice a2 i0 c2) i0 (wi (fst_ (wE f0 t0) i0)) :: H) w := by
          rw [List.take_append_drop, ← HQ.out]
          refine sb_from ?_ hs; repeat constructor
        have h7 := cmb_split h6
        have h8 := cmb_take f0 h7
        rw [List.take_take, Nat.min_eq_left (by have := HT0.out; omega)] at h8
        have h10 := cmb_bls (a := grC at_) (t0 - f0) h8.b1
        have h11 := cmb_app h10.b1
        rw [← List.append_assoc] at h11
        exact rw_close (by rw [← HQ.out, fst_len]) (by refine sb_from ?_ h11; repeat constructor)
      clear hs
      go_wp2_with ((go_at_call 77; refine (whole52 HLM.out HW0.out.1 h0 h512 HW0.out.2 h9).mono ?_; clear h9; rintro e w ⟨rfl, hs⟩))
      refine end_end0 rfl rfl ?_
      exact ⟨rfl, by rw [HG.out]; exact hs⟩
end Go.Proofs.Ytdcagaaanbgcoaa
