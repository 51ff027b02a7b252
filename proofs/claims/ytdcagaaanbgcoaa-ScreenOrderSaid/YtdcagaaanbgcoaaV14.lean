/- Law 6: the document's Insert, Delete. -/
import Derived.Test.YtdcagaaanbgcoaaV12
import Derived.Test.YtdcagaaanbgcoaaSf
namespace Go.Proofs.Ytdcagaaanbgcoaa
open Go.RowKit Go.Mem Go.Cells
variable {W w : World} {H : List HProp}
def qI (ps : List PC) (B : PC) (n c m : Nat) (i : Nat) : PC := if i < c then PC.at ps i else if i < c + m then B else PC.at ps (i - m)
def qD (ps : List PC) (B : PC) (n c m : Nat) (i : Nat) : PC := if i < c then PC.at ps i else if i + m < n then PC.at ps (i + m) else B
theorem at_some {ps : List PC} {i : Nat} (h : i < ps.length) : ps[i]? = some (PC.at ps i) := by
  obtain ⟨x, hx⟩ : ∃ x, ps[i]? = some x := ⟨_, List.getElem?_eq_getElem h⟩
  rw [hx, PC.at_get hx]
theorem qI_is {ps : List PC} {B : PC} {n c m : Nat} (hn : ps.length = n) (hm : c + m ≤ n) : fst_ (qI ps B n c m) n = ps.take c ++ List.replicate m B ++ (ps.drop c).take (n - (c + m)) := by
  have hl : (ps.take c ++ List.replicate m B ++ (ps.drop c).take (n - (c + m))).length = n := by
    simp only [List.length_append, List.length_take, List.length_replicate, List.length_drop]; omega
  have := fst_is (f := qI ps B n c m) (L := ps.take c ++ List.replicate m B ++ (ps.drop c).take (n - (c + m))) (fun i hi => by
    rw [hl] at hi
    unfold qI
    by_cases h1 : i < c
    · rw [if_pos h1, List.append_assoc, List.getElem?_append_left (by rw [List.length_take]; omega), List.getElem?_take, if_pos h1, at_some (by omega)]
    · by_cases h2 : i < c + m
      · rw [if_neg h1, if_pos h2, List.getElem?_append_left (by simp only [List.length_append, List.length_take, List.length_replicate]; omega), List.getElem?_append_right (by rw [List.length_take]; omega), List.getElem?_replicate, if_pos (by rw [List.length_take]; omega)]
      · rw [if_neg h1, if_neg h2, List.getElem?_append_right (by simp only [List.length_append, List.length_take, List.length_replicate]; omega), List.getElem?_take, if_pos (by simp only [List.length_append, List.length_take, List.length_replicate]; omega), List.getElem?_drop]
        simp only [List.length_append, List.length_take, List.length_replicate]
        rw [show c + (i - (min c ps.length + m)) = i - m from by omega, at_some (by omega)])
  rw [hl] at this
  exact this
theorem qD_is {ps : List PC} {B : PC} {n c m : Nat} (hn : ps.length = n) (hm : c + m ≤ n) : fst_ (qD ps B n c m) n = ps.take c ++ ps.drop (c + m) ++ List.replicate m B := by
  have hl : (ps.take c ++ ps.drop (c + m) ++ List.replicate m B).length = n := by
    simp only [List.length_append, List.length_take, List.length_replicate, List.length_drop]; omega
  have := fst_is (f := qD ps B n c m) (L := ps.take c ++ ps.drop (c + m) ++ List.replicate m B) (fun i hi => by
    rw [hl] at hi
    unfold qD
    by_cases h1 : i < c
    · rw [if_pos h1, List.append_assoc, List.getElem?_append_left (by rw [List.length_take]; omega), List.getElem?_take, if_pos h1, at_some (by omega)]
    · by_cases h2 : i + m < n
      · rw [if_neg h1, if_pos h2, List.getElem?_append_left (by simp only [List.length_append, List.length_take, List.length_drop]; omega), List.getElem?_append_right (by rw [List.length_take]; omega), List.getElem?_drop]
        simp only [List.length_take]
        rw [show c + m + (i - min c ps.length) = i + m from by omega, at_some (by omega)]
      · rw [if_neg h1, if_neg h2, List.getElem?_append_right (by simp only [List.length_append, List.length_take, List.length_drop]; omega), List.getElem?_replicate, if_pos (by simp only [List.length_append, List.length_take, List.length_drop]; omega)])
  rw [hl] at this
  exact this
attribute [local irreducible] rowTy oneTy World.setCell World.setCells World.alloc World.drew World.drewN Calls sat cel own blk old wpQuiet wpList cmb cmb1 rwP cls rws wi wh fst_
end Go.Proofs.Ytdcagaaanbgcoaa
namespace Go.Proofs.Ytdcagaaanbgcoaa
open Go.RowKit Go.Mem Go.Cells
variable {W w : World} {H : List HProp}
def qR (ps : List PC) (n : Nat) (i : Nat) : PC := if i < n then PC.at ps i else PC.bl At.z
def wR (n : Nat) (i : Nat) : Int := if i < n then i else -1
theorem qR_is {ps : List PC} {n m : Nat} (hn : ps.length = n) : fst_ (qR ps n) m = ps.take m ++ List.replicate (m - n) (PC.bl At.z) := by
  have hl : (ps.take m ++ List.replicate (m - n) (PC.bl At.z)).length = m := by
    simp only [List.length_append, List.length_take, List.length_replicate]; omega
  have := fst_is (f := qR ps n) (L := ps.take m ++ List.replicate (m - n) (PC.bl At.z)) (fun i hi => by
    rw [hl] at hi
    unfold qR
    by_cases h1 : i < n
    · rw [if_pos h1, List.getElem?_append_left (by rw [List.length_take]; omega), List.getElem?_take, if_pos hi, at_some (by omega)]
    · rw [if_neg h1, List.getElem?_append_right (by rw [List.length_take]; omega), List.getElem?_replicate, if_pos (by rw [List.length_take]; omega)])
  rw [hl] at this
  exact this
def resR (l : List C) (m : Nat) : List C := wh none ((l.take m ++ List.replicate (m - l.length) (bC At.z)).zip (fst_ (wR l.length) m))
attribute [local irreducible] rowTy oneTy World.setCell World.setCells World.alloc World.drew World.drewN Calls sat cel own blk old wpQuiet wpList cmb cmb1 rwP cls rws wi wh fst_
theorem resize38_no {b : Nat} {l : List C} {k : Int} (h : ¬ (1 ≤ k ∧ k ≤ 512)) (hs : sat W (rwP 100 b l :: H) w) : Calls Try.prog 73 #[.pointer (some ⟨b, 0, none⟩), .int .i64 k] w fun e w' => e = .returned (.int .i64 2) ∧ sat W (rwP 100 b l :: H) w' := by
  have HD := Lib.hid (show decide (1 ≤ k ∧ k ≤ 512) = false from decide_eq_false h)
  clear h
  go_enter Try.func73, Try.ntmps73
  go_wp2_with ((go_at_call 33; refine (may19 hs).mono ?_; clear hs; rintro e w ⟨rfl, hs⟩; rw [HD.out]))
  go_ret
  exact ⟨rfl, hs⟩
set_option maxHeartbeats 1000000 in
theorem resize38_ok {b n m : Nat} {l : List C} (hn : l.length = n) (h0 : 0 < n) (h512 : n ≤ 1000) (hm0 : 1 ≤ m) (hm : m ≤ 512) (hs : sat W (rwP 100 b l :: H) w) :
    Calls Try.prog 73 #[.pointer (some ⟨b, 0, none⟩), .int .i64 (m : Int)] w fun e w' => e = .returned (.int .i64 0) ∧ sat W (rwP 100 b (resR l m) :: H) w' := by
  have HD := Lib.hid (show decide (1 ≤ (m : Int) ∧ (m : Int) ≤ 512) = true from decide_eq_true (by omega))
  obtain ⟨ps, a, p, hps, hs⟩ := rw_open hn hs
  have hpn : ps.length = n := by rw [← hn, ← hps, List.length_map]
  obtain ⟨g, rfl⟩ := own_ptr h0 hs.b1
  have HP := Lib.hid (And.intro hpn hps)
  have HQ : Hid (fst_ (qR ps n) m = ps.take m ++ List.replicate (m - n) (PC.bl At.z)) := Lib.hid (qR_is hpn)
  have HW0 : Hid ((fst_ (wR n) m).length = m ∧ ∀ k ∈ fst_ (wR n) m, -2 ≤ k ∧ k ≤ 1000) := Lib.hid ⟨fst_len _ _, fun k hk => by
    unfold fst_ at hk
    obtain ⟨i, hi, rfl⟩ := List.mem_map.1 hk
    have := List.mem_range.1 hi
    unfold wR
    split <;> omega⟩
  have HG : Hid (resR l m = wh none ((ps.take m ++ List.replicate (m - n) (PC.bl At.z)).map (·.c) |>.zip (fst_ (wR n) m))) := Lib.hid (by
    unfold resR
    rw [hn]
    simp only [List.map_append, List.map_take, List.map_replicate, hps]
    rfl)
  clear hpn hps hn
  go_enter Try.func73, Try.ntmps73
  go_wp2_with ((go_at_call 33; refine (may19 hs).mono ?_; clear hs; rintro e w ⟨rfl, hs⟩; rw [HD.out]))
  have hs := (hs.own_nil 110 6).own_nil 3 1
  go_loopw [7, 5, 6] (fun i v u wx => ∃ (i0 : Nat) (a1 a2 : Option Addr) (c1 c2 : Nat), i0 ≤ m ∧ i = .int .i64 (i0 : Int) ∧ v = .slice a1 i0 c1 ∧ u = .slice a2 i0 c2 ∧ sat W (own 3 1 (.slice a2 i0 c2) i0 (wi (fst_ (wR n) i0)) :: own 110 6 (.slice a1 i0 c1) i0 (rws (fst_ (qR ps n) i0)).flatten :: cel b 100 [.slice (some ⟨g, 0, none⟩) n p] :: own 110 6 (.slice (some ⟨g, 0, none⟩) n p) n (rws ps).flatten :: cmb ps :: H) wx) (fun i _ _ _ => ((m : Int) - intOf i).toNat)
  case atStart => exact ⟨0, none, none, 0, 0, Nat.zero_le _, rfl, rfl, rfl, by rw [fst_zero_rws, fst_zero_wi]; refine sb_from ?_ hs; repeat constructor⟩
  case round =>
    clear hs
    obtain ⟨i0, a1, a2, c1, c2, hi, rfl, rfl, rfl, hs⟩ := hrel
    by_cases hin : i0 < m
    · by_cases k1 : i0 < n
      · have g0 : (i0 : Int) < (n : Int) := by omega
        obtain ⟨x9, hx⟩ : ∃ x9, ps[i0]? = some x9 := ⟨_, List.getElem?_eq_getElem (by rw [HP.out.1]; omega)⟩
        obtain ⟨⟨r, cb, wd, az⟩, xa, xp⟩ := x9
        have HAP : Hid ((rws (fst_ (qR ps n) i0)).flatten ++ cV ⟨r, cb, wd, az⟩ (.slice xa cb.length xp) = (rws (fst_ (qR ps n) (i0 + 1))).flatten) := Lib.hid (fst_rws _ i0 (x := ⟨⟨r, cb, wd, az⟩, xa, xp⟩) (by unfold qR; rw [if_pos k1]; exact PC.at_get hx))
        have HAW : Hid (wi (fst_ (wR n) i0) ++ [.int .i64 (i0 : Int)] = wi (fst_ (wR n) (i0 + 1))) := Lib.hid (fst_wi _ i0 (by unfold wR; rw [if_pos k1]))
        have HX : Hid ((rws ps)[i0]? = some [.int .i32 r, .slice xa cb.length xp, .int .u8 wd, .int .u32 az.fg, .int .u32 az.bg, .int .u16 az.fl]) := Lib.hid (rws_get hx)
        clear hx
        go_wp2_with (first | (((with_reducible apply app (T' := 110) hs.b2); exact rfl; exact rfl; exact rfl; exact rfl; exact slty37; exact rfl; exact rfl; decide; omega; (unfold maxLen; omega); clear hs; intro a9 c9 w hs; rw [HAP.out] at hs)) | (((with_reducible apply app (T' := 3) hs.b2); exact rfl; exact rfl; exact rfl; exact rfl; exact slty81; exact rfl; exact rfl; decide; omega; (unfold maxLen; omega); clear hs; intro a8 c8 w hs; rw [HAW.out] at hs)) | (((with_reducible apply ldor hs.b3); exact rfl; exact rfl; exact rfl; exact HX.out; exact rws6 _; exact row41)) | ((with_reducible refine isl ?_); first | ((with_reducible apply ldx); exact rfl; exact rfl; exact rfl; (exact hs.b2); exact rfl; kernel_rfl) | ((with_reducible refine wrap hs ?_); clear hs; intro w hs)))
        go_roundw
        case rel => exact ⟨i0 + 1, _, _, _, _, by omega, by go_num, rfl, rfl, by refine sb_from ?_ hs; repeat constructor⟩
        case measure => simp [intOf]; omega
      · have g0 : ¬ (i0 : Int) < (n : Int) := by omega
        have HAP : Hid ((rws (fst_ (qR ps n) i0)).flatten ++ [.int .i32 32, .slice none 0 0, .int .u8 0, .int .u32 0, .int .u32 0, .int .u16 0] = (rws (fst_ (qR ps n) (i0 + 1))).flatten) := Lib.hid (fst_rws _ i0 (x := PC.bl At.z) (by unfold qR; rw [if_neg k1]))
        have HAW : Hid (wi (fst_ (wR n) i0) ++ [.int .i64 (-1)] = wi (fst_ (wR n) (i0 + 1))) := Lib.hid (fst_wi _ i0 (by unfold wR; rw [if_neg k1]))
        go_wp2_with (first | (((with_reducible apply app (T' := 110) hs.b2); exact rfl; exact rfl; exact rfl; exact rfl; exact slty37; exact rfl; exact rfl; decide; omega; (unfold maxLen; omega); clear hs; intro a9 c9 w hs; rw [HAP.out] at hs)) | (((with_reducible apply app (T' := 3) hs.b2); exact rfl; exact rfl; exact rfl; exact rfl; exact slty81; exact rfl; exact rfl; decide; omega; (unfold maxLen; omega); clear hs; intro a8 c8 w hs; rw [HAW.out] at hs)) | ((with_reducible refine isl ?_); first | ((with_reducible apply ldx); exact rfl; exact rfl; exact rfl; (exact hs.b2); exact rfl; kernel_rfl) | ((with_reducible refine wrap hs ?_); clear hs; intro w hs)))
        go_roundw
        case rel => exact ⟨i0 + 1, _, _, _, _, by omega, by go_num, rfl, rfl, by refine sb_from ?_ hs; repeat constructor⟩
        case measure => simp [intOf]; omega
    · have hge : ¬ (i0 : Int) < (m : Int) := by omega
      obtain rfl : i0 = m := by omega
      clear hin
      go_upto_region 14 with (((with_reducible refine isl ?_); first | ((with_reducible apply stx); exact rfl; exact rfl; exact rfl; (exact hs.b2); exact rfl; exact rfl; exact rfl; kernel_rfl; exact rfl; clear hs; intro w hs)))
      have HLM : Hid (((ps.take i0 ++ List.replicate (i0 - n) (PC.bl At.z)).map (·.c)).length = i0) := Lib.hid (by rw [List.length_map, ← HQ.out, fst_len])
      have h9 : sat W (rwP 100 b ((ps.take i0 ++ List.replicate (i0 - n) (PC.bl At.z)).map (·.c)) :: own 3 1 (.slice a2 i0 c2) i0 (wi (fst_ (wR n) i0)) :: H) w := by
        have h6 : sat W (cmb ps :: cel b 100 [.slice a1 i0 c1] :: own 110 6 (.slice a1 i0 c1) i0 (rws (ps.take i0 ++ List.replicate (i0 - n) (PC.bl At.z))).flatten :: own 3 1 (.slice a2 i0 c2) i0 (wi (fst_ (wR n) i0)) :: H) w := by
          rw [← HQ.out]
          refine sb_from ?_ hs; repeat constructor
        have h8 := cmb_take i0 h6
        have h13 := cmb_bls (a := At.z) (i0 - n) (cmb_nil h8)
        rw [List.append_nil] at h13
        have h12 := cmb_app h13.b1
        exact rw_close (by rw [← HQ.out, fst_len]) (by refine sb_from ?_ h12; repeat constructor)
      have hm3 : i0 ≤ 1000 := by omega
      clear hs
      go_wp2_with ((go_at_call 77; refine (whole52 HLM.out HW0.out.1 (by omega) hm3 HW0.out.2 h9).mono ?_; clear h9; rintro e w ⟨rfl, hs⟩))
      go_ret
      exact ⟨rfl, by rw [HG.out]; exact hs⟩
end Go.Proofs.Ytdcagaaanbgcoaa
