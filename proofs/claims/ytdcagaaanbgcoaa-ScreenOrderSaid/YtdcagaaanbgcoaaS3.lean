/- Law 9: a screen in memory; what is asked of it. -/
import Derived.Test.YtdcagaaanbgcoaaSf
import Derived.Test.YtdcagaaanbgcoaaL6
namespace Go.Proofs.Ytdcagaaanbgcoaa
open Go.RowKit Go.Mem Go.Cells Go.Lines
variable {W w : World} {H : List HProp}
/-- The first place of what has an id; -1: none. -/
def ffst (L : List LN) (id : Int) : Int :=
  match L with
  | [] => -1
  | x :: l => if x.1 = id then 0 else if 0 ≤ ffst l id then ffst l id + 1 else -1
theorem ffst_ge : ∀ (L : List LN) (id : Int), -1 ≤ ffst L id
  | [], _ => by simp [ffst]
  | x :: l, id => by
    have := ffst_ge l id
    unfold ffst
    split
    · omega
    · split <;> omega
theorem ffst_at : ∀ (L : List LN) (id : Int) (i : Nat), (∀ j y, j < i → L[j]? = some y → y.1 ≠ id) → i ≤ L.length → ffst L id = if 0 ≤ ffst (L.drop i) id then ffst (L.drop i) id + i else -1
  | L, id, 0, _, _ => by
    have := ffst_ge L id
    rw [List.drop_zero]
    split <;> omega
  | [], id, i + 1, _, h => by simp at h
  | x :: l, id, i + 1, h, hl => by
    have h0 : x.1 ≠ id := h 0 x (by omega) rfl
    have ih := ffst_at l id i (fun j y hj hy => h (j + 1) y (by omega) hy) (by simpa using hl)
    have hg := ffst_ge (l.drop i) id
    rw [ffst, if_neg h0, ih, List.drop_succ_cons]
    split
    · rw [if_pos (by omega)]; push_cast; omega
    · rw [if_neg (by omega)]
theorem ffst_none {L : List LN} {id : Int} (h : ∀ (j : Nat) (y : LN), L[j]? = some y → y.1 ≠ id) : ffst L id = -1 := by
  have h1 := ffst_at L id L.length (fun j y _ hy => h j y hy) (Nat.le_refl _)
  rw [List.drop_length] at h1
  rw [h1]
  simp [ffst]
theorem ffst_hit {L : List LN} {id : Int} {i : Nat} {y : LN} (h : ∀ (j : Nat) (y : LN), j < i → L[j]? = some y → y.1 ≠ id) (hi : L[i]? = some y) (hy : y.1 = id) : ffst L id = i := by
  have hl := (List.getElem?_eq_some_iff.1 hi).1
  have h1 := ffst_at L id i h (by omega)
  have e : L.drop i = y :: L.drop (i + 1) := by rw [List.drop_eq_getElem_cons hl, (List.getElem?_eq_some_iff.1 hi).2]
  rw [e, ffst, if_pos hy] at h1
  rw [h1, if_pos (by omega)]
  omega
/-- A screen: its store's block, and its own lines. -/
structure Sc where
  keeps : Bool
  cols : Nat
  top : Int
  bot : Int
  L : List LN
def scP (b s : Nat) (x : Sc) : HProp := fun h => ∃ (a : Option Addr) (p : Nat), star (cel b 46 [.pointer (some ⟨s, 0, none⟩), .bool x.keeps, .int .i64 x.cols, .slice a x.L.length p, .int .i64 x.top, .int .i64 x.bot]) (lnP 81 96 (.slice a x.L.length p) x.L) h
theorem sc_open {b s n : Nat} {keeps : Bool} {cols : Nat} {top bot : Int} {L : List LN} (hn : L.length = n) (hs : sat W (scP b s ⟨keeps, cols, top, bot, L⟩ :: H) w) : ∃ (ps : List PL) (a : Option Addr) (p : Nat), Hid (ps.map PL.ln = L ∧ ps.length = n) ∧ sat W (cel b 46 [.pointer (some ⟨s, 0, none⟩), .bool keeps, .int .i64 cols, .slice a n p, .int .i64 top, .int .i64 bot] :: own 81 2 (.slice a n p) n (lvs ps).flatten :: lrw 96 ps :: H) w := by
  subst hn
  unfold scP at hs
  obtain ⟨a, hs⟩ := hs.ex
  obtain ⟨p, hs⟩ := hs.ex
  obtain ⟨ps, h1, h2, hs⟩ := ln_open rfl hs.unstar.b1
  exact ⟨ps, a, p, Lib.hid ⟨h1, h2⟩, by refine sb_from ?_ hs; repeat constructor⟩
theorem sc_close {b s n p : Nat} {keeps : Bool} {cols : Nat} {top bot : Int} {L : List LN} {a : Option Addr} {ps : List PL} (HO : Hid (ps.map PL.ln = L ∧ ps.length = n)) (hs : sat W (cel b 46 [.pointer (some ⟨s, 0, none⟩), .bool keeps, .int .i64 cols, .slice a n p, .int .i64 top, .int .i64 bot] :: own 81 2 (.slice a n p) n (lvs ps).flatten :: lrw 96 ps :: H) w) : sat W (scP b s ⟨keeps, cols, top, bot, L⟩ :: H) w := by
  obtain ⟨h1, h2⟩ := HO.out
  have h3 := ln_close h2 (by refine sb_from ?_ hs; repeat constructor : sat W (own 81 2 (.slice a n p) n (lvs ps).flatten :: lrw 96 ps :: cel b 46 [.pointer (some ⟨s, 0, none⟩), .bool keeps, .int .i64 cols, .slice a n p, .int .i64 top, .int .i64 bot] :: H) w)
  rw [h1] at h3
  have hn : L.length = n := by rw [← h1, List.length_map, h2]
  subst hn
  have h4 := h3.b1.star
  unfold scP
  exact h4.imp fun h k => ⟨a, p, k⟩
theorem row81 : rowTy Try.prog 81 2 = true := by kernel_rfl
theorem one44 : oneTy Try.prog 44 = true := by kernel_rfl
theorem one28 : oneTy Try.prog 28 = true := by kernel_rfl
theorem one53 : oneTy Try.prog 53 = true := by kernel_rfl
theorem fld81 (w : World) (x y : Value) : (Instr.field 81 (.agg #[x, y]) 0).run Try.prog w = .ok x w := by
  simp only [Instr.field, part, go_sem]
  simp [asAgg, go_sem]
theorem fld81' (w : World) (x y : Value) : (Instr.field 81 (.agg #[x, y]) 1).run Try.prog w = .ok y w := by
  simp only [Instr.field, part, go_sem]
  simp [asAgg, go_sem]
attribute [local irreducible] rowTy oneTy World.setCell World.setCells World.alloc World.drew World.drewN Calls sat cel own blk old wpQuiet wpList cmb cmb1 rwP cls rws wi wh fst_ World.rangeAt lrw lnP stP lsP dsP lvs
theorem may44 {x : Int} (hs : sat W H w) : Calls Try.prog 44 #[.int .i64 x] w fun e w' => e = .returned (.bool (decide (1 ≤ x ∧ x ≤ 512))) ∧ sat W H w' := by
  by_cases h1 : 1 ≤ x
  · have g1 : decide (1 ≤ x) = true := decide_eq_true h1
    by_cases h2 : x ≤ 512
    · have g2 : decide (x ≤ 512) = true := decide_eq_true h2
      have HD := Lib.hid (show decide (1 ≤ x ∧ x ≤ 512) = true from decide_eq_true ⟨h1, h2⟩)
      rw [HD.out]
      clear h1 h2
      go_enter Try.func44, Try.ntmps44
      go_wp2_with fail
      go_ret
      exact ⟨rfl, hs⟩
    · have g2 : decide (x ≤ 512) = false := decide_eq_false h2
      have HD := Lib.hid (show decide (1 ≤ x ∧ x ≤ 512) = false from decide_eq_false (by omega))
      rw [HD.out]
      clear h1 h2
      go_enter Try.func44, Try.ntmps44
      go_wp2_with fail
      go_ret
      exact ⟨rfl, hs⟩
  · have g1 : decide (1 ≤ x) = false := decide_eq_false h1
    have HD := Lib.hid (show decide (1 ≤ x ∧ x ≤ 512) = false from decide_eq_false (by omega))
    rw [HD.out]
    clear h1
    go_enter Try.func44, Try.ntmps44
    go_wp2_with fail
    go_ret
    exact ⟨rfl, hs⟩
section
variable {b s n p : Nat} {keeps : Bool} {cols : Nat} {top bot : Int} {a : Option Addr}
theorem sready37 (h : 0 < n) (hs : sat W (cel b 46 [.pointer (some ⟨s, 0, none⟩), .bool keeps, .int .i64 cols, .slice a n p, .int .i64 top, .int .i64 bot] :: H) w) : Calls Try.prog 37 #[.pointer (some ⟨b, 0, none⟩)] w fun e w' => e = .returned (.bool true) ∧ sat W (cel b 46 [.pointer (some ⟨s, 0, none⟩), .bool keeps, .int .i64 cols, .slice a n p, .int .i64 top, .int .i64 bot] :: H) w' := by
  have g1 : decide ((0 : Int) < (n : Int)) = true := decide_eq_true (by omega)
  go_enter Try.func37, Try.ntmps37
  go_wp2_with (((with_reducible refine isl ?_); first | ((with_reducible apply ldx); exact rfl; exact rfl; exact rfl; exact hs.b0; exact rfl; kernel_rfl)))
  go_ret
  exact ⟨rfl, hs⟩
theorem srows20 (h : 0 < n) (hs : sat W (cel b 46 [.pointer (some ⟨s, 0, none⟩), .bool keeps, .int .i64 cols, .slice a n p, .int .i64 top, .int .i64 bot] :: H) w) : Calls Try.prog 20 #[.pointer (some ⟨b, 0, none⟩)] w fun e w' => e = .returned (.int .i64 n) ∧ sat W (cel b 46 [.pointer (some ⟨s, 0, none⟩), .bool keeps, .int .i64 cols, .slice a n p, .int .i64 top, .int .i64 bot] :: H) w' := by
  go_enter Try.func20, Try.ntmps20
  go_wp2_with (first | (go_at_call 37; refine (sready37 h (by (apply sk_from (hs := hs); repeat constructor))).mono ?_; clear hs; rintro e w ⟨rfl, hs⟩) | ((with_reducible refine isl ?_); first | ((with_reducible apply ldx); exact rfl; exact rfl; exact rfl; exact hs.b0; exact rfl; kernel_rfl)))
  go_ret
  exact ⟨rfl, hs⟩
theorem scols21 (h : 0 < n) (hs : sat W (cel b 46 [.pointer (some ⟨s, 0, none⟩), .bool keeps, .int .i64 cols, .slice a n p, .int .i64 top, .int .i64 bot] :: H) w) : Calls Try.prog 21 #[.pointer (some ⟨b, 0, none⟩)] w fun e w' => e = .returned (.int .i64 cols) ∧ sat W (cel b 46 [.pointer (some ⟨s, 0, none⟩), .bool keeps, .int .i64 cols, .slice a n p, .int .i64 top, .int .i64 bot] :: H) w' := by
  go_enter Try.func21, Try.ntmps21
  go_wp2_with (first | (go_at_call 37; refine (sready37 h (by (apply sk_from (hs := hs); repeat constructor))).mono ?_; clear hs; rintro e w ⟨rfl, hs⟩) | ((with_reducible refine isl ?_); first | ((with_reducible apply ldx); exact rfl; exact rfl; exact rfl; exact hs.b0; exact rfl; kernel_rfl)))
  go_ret
  exact ⟨rfl, hs⟩
theorem smargins10 (h : 0 < n) (hs : sat W (cel b 46 [.pointer (some ⟨s, 0, none⟩), .bool keeps, .int .i64 cols, .slice a n p, .int .i64 top, .int .i64 bot] :: H) w) : Calls Try.prog 10 #[.pointer (some ⟨b, 0, none⟩)] w fun e w' => e = .returned (.tuple #[.int .i64 top, .int .i64 bot]) ∧ sat W (cel b 46 [.pointer (some ⟨s, 0, none⟩), .bool keeps, .int .i64 cols, .slice a n p, .int .i64 top, .int .i64 bot] :: H) w' := by
  go_enter Try.func10, Try.ntmps10
  go_upto_region 3 with ((go_at_call 37; refine (sready37 h (by (apply sk_from (hs := hs); repeat constructor))).mono ?_; clear hs; rintro e w ⟨rfl, hs⟩))
  ((try simp only [Act.put, List.setIfInBounds_toArray, List.set_cons_succ, List.set_cons_zero]); refine region_sat hs (by kernel_rfl) (by kernel_rfl) ?_; intro X f hne hf hcl; (repeat ((first | ((with_reducible apply ldqx); exact rfl; exact rfl; exact rfl; exact fun x => (hf x).b0; exact rfl; kernel_rfl) | go_big_quiet_step (fail)); (try simp only [Act.put, List.setIfInBounds_toArray, List.set_cons_succ, List.set_cons_zero]))); refine wpQuiet_nil ?_; clear hcl hf hne hs f X; intro w hs)
  go_wp2_with fail
  refine end_ret rfl (results_tmp2 rfl _ _ _) ⟨rfl, hs⟩
theorem sat48 {ps : List PL} {i : Nat} {id : Int} {b2 : Nat} {l : List C} (hx : ps[i]? = some ⟨id, b2, l⟩) (hi : i < n) (hs : sat W (cel b 46 [.pointer (some ⟨s, 0, none⟩), .bool keeps, .int .i64 cols, .slice a n p, .int .i64 top, .int .i64 bot] :: own 81 2 (.slice a n p) n (lvs ps).flatten :: H) w) :
    Calls Try.prog 48 #[.pointer (some ⟨b, 0, none⟩), .int .i64 (i : Int)] w fun e w' => e = .returned (.agg #[.int .i64 id, .pointer (some ⟨b2, 0, none⟩)]) ∧ sat W (cel b 46 [.pointer (some ⟨s, 0, none⟩), .bool keeps, .int .i64 cols, .slice a n p, .int .i64 top, .int .i64 bot] :: own 81 2 (.slice a n p) n (lvs ps).flatten :: H) w' := by
  have h : 0 < n := by omega
  obtain ⟨g, rfl⟩ := own_ptr h hs.b1
  have g1 : decide ((i : Int) < 0) = false := decide_eq_false (by omega)
  have g2 : decide ((n : Int) ≤ (i : Int)) = false := decide_eq_false (by omega)
  have HX := Lib.hid (lvs_get hx)
  clear hx
  go_enter Try.func48, Try.ntmps48
  go_wp2_with (first | (go_at_call 20; refine (srows20 h (by (apply sk_from (hs := hs); repeat constructor))).mono ?_; clear hs; rintro e w ⟨rfl, hs⟩) | ((with_reducible refine isl ?_); first | ((with_reducible apply ldor hs.b2); exact rfl; exact rfl; exact rfl; exact HX.out; exact lvs2 _; exact row81) | ((with_reducible apply stswx); exact rfl; exact rfl; exact rfl; (exact hs.b1); exact rfl; exact row81; exact rfl; exact rfl; exact rfl; clear hs; intro w hs) | ((with_reducible apply ldx); exact rfl; exact rfl; exact rfl; (exact hs.b0); exact rfl; kernel_rfl) | ((with_reducible refine wrap hs ?_); clear hs; (generalize w.heap.size = z4); intro w hs)))
  (refine ret_cell hs.b0 rfl rfl rfl row81 ?_)
  exact ⟨rfl, by refine sb_from ?_ hs; repeat constructor⟩
theorem sat48_no {k : Int} (h : 0 < n) (hk : k < 0 ∨ (n : Int) ≤ k) (hs : sat W (cel b 46 [.pointer (some ⟨s, 0, none⟩), .bool keeps, .int .i64 cols, .slice a n p, .int .i64 top, .int .i64 bot] :: H) w) :
    Calls Try.prog 48 #[.pointer (some ⟨b, 0, none⟩), .int .i64 k] w fun e w' => e = .returned (.agg #[.int .i64 0, .pointer none]) ∧ sat W (cel b 46 [.pointer (some ⟨s, 0, none⟩), .bool keeps, .int .i64 cols, .slice a n p, .int .i64 top, .int .i64 bot] :: H) w' := by
  by_cases h1 : k < 0
  · have g1 : decide (k < 0) = true := decide_eq_true h1
    clear hk
    go_enter Try.func48, Try.ntmps48
    go_wp2_with (((with_reducible refine isl ?_); first | ((with_reducible apply stswx); exact rfl; exact rfl; exact rfl; (exact hs.b0); exact rfl; exact row81; exact rfl; exact rfl; exact rfl; clear hs; intro w hs) | ((with_reducible refine wrap hs ?_); clear hs; (generalize w.heap.size = z4); intro w hs)))
    (refine ret_cell hs.b0 rfl rfl rfl row81 ?_)
    exact ⟨rfl, by refine sb_from ?_ hs; repeat constructor⟩
  · have g1 : decide (k < 0) = false := decide_eq_false h1
    have g2 : decide ((n : Int) ≤ k) = true := decide_eq_true (by omega)
    clear hk
    go_enter Try.func48, Try.ntmps48
    go_wp2_with (first | (go_at_call 20; refine (srows20 h (by (apply sk_from (hs := hs); repeat constructor))).mono ?_; clear hs; rintro e w ⟨rfl, hs⟩) | ((with_reducible refine isl ?_); first | ((with_reducible apply stswx); exact rfl; exact rfl; exact rfl; (exact hs.b1); exact rfl; exact row81; exact rfl; exact rfl; exact rfl; clear hs; intro w hs) | ((with_reducible refine wrap hs ?_); clear hs; (generalize w.heap.size = z4); intro w hs)))
    (refine ret_cell hs.b0 rfl rfl rfl row81 ?_)
    exact ⟨rfl, by refine sb_from ?_ hs; repeat constructor⟩
theorem sid22 {ps : List PL} {i : Nat} {id : Int} {b2 : Nat} {l : List C} (hx : ps[i]? = some ⟨id, b2, l⟩) (hi : i < n) (hs : sat W (cel b 46 [.pointer (some ⟨s, 0, none⟩), .bool keeps, .int .i64 cols, .slice a n p, .int .i64 top, .int .i64 bot] :: own 81 2 (.slice a n p) n (lvs ps).flatten :: H) w) :
    Calls Try.prog 22 #[.pointer (some ⟨b, 0, none⟩), .int .i64 (i : Int)] w fun e w' => e = .returned (.int .i64 id) ∧ sat W (cel b 46 [.pointer (some ⟨s, 0, none⟩), .bool keeps, .int .i64 cols, .slice a n p, .int .i64 top, .int .i64 bot] :: own 81 2 (.slice a n p) n (lvs ps).flatten :: H) w' := by
  have hfd := fld81
  have HX := Lib.hid hx
  clear hx
  go_enter Try.func22, Try.ntmps22
  go_wp2_with ((go_at_call 48; refine (sat48 HX.out hi (by (apply sk_from (hs := hs); repeat constructor))).mono ?_; clear hs; rintro e w ⟨rfl, hs⟩))
  go_ret
  exact ⟨rfl, hs⟩
theorem sid22_no {k : Int} (h : 0 < n) (hk : k < 0 ∨ (n : Int) ≤ k) (hs : sat W (cel b 46 [.pointer (some ⟨s, 0, none⟩), .bool keeps, .int .i64 cols, .slice a n p, .int .i64 top, .int .i64 bot] :: H) w) :
    Calls Try.prog 22 #[.pointer (some ⟨b, 0, none⟩), .int .i64 k] w fun e w' => e = .returned (.int .i64 0) ∧ sat W (cel b 46 [.pointer (some ⟨s, 0, none⟩), .bool keeps, .int .i64 cols, .slice a n p, .int .i64 top, .int .i64 bot] :: H) w' := by
  have hfd := fld81
  have HX := Lib.hid hk
  clear hk
  go_enter Try.func22, Try.ntmps22
  go_wp2_with ((go_at_call 48; refine (sat48_no h HX.out (by (apply sk_from (hs := hs); repeat constructor))).mono ?_; clear hs; rintro e w ⟨rfl, hs⟩))
  go_ret
  exact ⟨rfl, hs⟩
theorem srow23 {ps : List PL} {i : Nat} {id : Int} {b2 : Nat} {l : List C} (hx : ps[i]? = some ⟨id, b2, l⟩) (hi : i < n) (hs : sat W (cel b 46 [.pointer (some ⟨s, 0, none⟩), .bool keeps, .int .i64 cols, .slice a n p, .int .i64 top, .int .i64 bot] :: own 81 2 (.slice a n p) n (lvs ps).flatten :: H) w) :
    Calls Try.prog 23 #[.pointer (some ⟨b, 0, none⟩), .int .i64 (i : Int)] w fun e w' => e = .returned (.pointer (some ⟨b2, 0, none⟩)) ∧ sat W (cel b 46 [.pointer (some ⟨s, 0, none⟩), .bool keeps, .int .i64 cols, .slice a n p, .int .i64 top, .int .i64 bot] :: own 81 2 (.slice a n p) n (lvs ps).flatten :: H) w' := by
  have hfd := fld81'
  have HX := Lib.hid hx
  clear hx
  go_enter Try.func23, Try.ntmps23
  go_wp2_with ((go_at_call 48; refine (sat48 HX.out hi (by (apply sk_from (hs := hs); repeat constructor))).mono ?_; clear hs; rintro e w ⟨rfl, hs⟩))
  go_ret
  exact ⟨rfl, hs⟩
theorem srow23_no {k : Int} (h : 0 < n) (hk : k < 0 ∨ (n : Int) ≤ k) (hs : sat W (cel b 46 [.pointer (some ⟨s, 0, none⟩), .bool keeps, .int .i64 cols, .slice a n p, .int .i64 top, .int .i64 bot] :: H) w) :
    Calls Try.prog 23 #[.pointer (some ⟨b, 0, none⟩), .int .i64 k] w fun e w' => e = .returned (.pointer none) ∧ sat W (cel b 46 [.pointer (some ⟨s, 0, none⟩), .bool keeps, .int .i64 cols, .slice a n p, .int .i64 top, .int .i64 bot] :: H) w' := by
  have hfd := fld81'
  have HX := Lib.hid hk
  clear hk
  go_enter Try.func23, Try.ntmps23
  go_wp2_with ((go_at_call 48; refine (sat48_no h HX.out (by (apply sk_from (hs := hs); repeat constructor))).mono ?_; clear hs; rintro e w ⟨rfl, hs⟩))
  go_ret
  exact ⟨rfl, hs⟩
theorem sfind24 {ps : List PL} {L : List LN} {id : Int} (h : 0 < n) (h5 : n ≤ 512) (HO : Hid (ps.map PL.ln = L ∧ ps.length = n)) (hs : sat W (cel b 46 [.pointer (some ⟨s, 0, none⟩), .bool keeps, .int .i64 cols, .slice a n p, .int .i64 top, .int .i64 bot] :: own 81 2 (.slice a n p) n (lvs ps).flatten :: H) w) :
    Calls Try.prog 24 #[.pointer (some ⟨b, 0, none⟩), .int .i64 id] w fun e w' => e = .returned (.int .i64 (ffst L id)) ∧ sat W (cel b 46 [.pointer (some ⟨s, 0, none⟩), .bool keeps, .int .i64 cols, .slice a n p, .int .i64 top, .int .i64 bot] :: own 81 2 (.slice a n p) n (lvs ps).flatten :: H) w' := by
  obtain ⟨g, rfl⟩ := own_ptr h hs.b1
  obtain ⟨F, hF⟩ : ∃ F, ffst L id = F := ⟨_, rfl⟩
  have HF := Lib.hid hF
  rw [HF.out]
  clear hF
  go_enter Try.func24, Try.ntmps24
  go_wp2_with ((go_at_call 20; refine (srows20 h (by (apply sk_from (hs := hs); repeat constructor))).mono ?_; clear hs; rintro e w ⟨rfl, hs⟩))
  go_loopw [8] (fun i wx => ∃ i0 : Nat, i0 ≤ n ∧ i = .int .i64 (i0 : Int) ∧ Hid (∀ (j : Nat) (y : LN), j < i0 → L[j]? = some y → y.1 ≠ id) ∧ sat W (cel b 46 [.pointer (some ⟨s, 0, none⟩), .bool keeps, .int .i64 cols, .slice (some ⟨g, 0, none⟩) n p, .int .i64 top, .int .i64 bot] :: own 81 2 (.slice (some ⟨g, 0, none⟩) n p) n (lvs ps).flatten :: H) wx) (fun i _ => ((n : Int) - intOf i).toNat)
  case atStart => exact ⟨0, Nat.zero_le _, rfl, Lib.hid (fun j y hj => absurd hj (by omega)), hs⟩
  case round =>
    clear hs
    obtain ⟨i0, hi, rfl, HJ, hs⟩ := hrel
    by_cases hin : i0 < n
    · have hin2 : (i0 : Int) < (n : Int) := by omega
      obtain ⟨⟨xid, xb, xl⟩, hx⟩ : ∃ x, ps[i0]? = some x := ⟨_, List.getElem?_eq_getElem (by rw [HO.out.2]; exact hin)⟩
      have hx2 : L[i0]? = some (xid, xl) := by rw [← HO.out.1, List.getElem?_map, hx]; rfl
      have HX0 := Lib.hid (lvs_at hx).1
      have HX2 := Lib.hid hx2
      clear hx hx2
      by_cases hq : xid = id
      · subst hq
        have HE := Lib.hid (ffst_hit HJ.out HX2.out rfl)
        go_wp2_with (((with_reducible refine isl ?_); first | ((with_reducible apply ldo hs.b1); exact rfl; exact rfl; exact rfl; exact HX0.out; exact one3) | ((with_reducible apply ldx); exact rfl; exact rfl; exact rfl; (exact hs.b0); exact rfl; kernel_rfl)))
        go_ret
        exact ⟨by rw [← HF.out, HE.out]; rfl, by refine sb_from ?_ hs; repeat constructor⟩
      · go_wp2_with (((with_reducible refine isl ?_); first | ((with_reducible apply ldo hs.b1); exact rfl; exact rfl; exact rfl; exact HX0.out; exact one3) | ((with_reducible apply ldx); exact rfl; exact rfl; exact rfl; (exact hs.b0); exact rfl; kernel_rfl)))
        go_roundw
        case rel => exact ⟨i0 + 1, by omega, by go_num, Lib.hid (fun j y hj hy => by
          by_cases hji : j = i0
          · subst hji
            rw [HX2.out] at hy
            cases hy
            exact hq
          · exact HJ.out j y (by omega) hy), by refine sb_from ?_ hs; repeat constructor⟩
        case measure => simp [intOf]; omega
    · have hge : ¬ (i0 : Int) < (n : Int) := by omega
      obtain rfl : i0 = n := by omega
      have HE : Hid (F = -1) := Lib.hid (by
        rw [← HF.out]
        refine ffst_none fun j y hy => HJ.out j y ?_ hy
        have h1 := (List.getElem?_eq_some_iff.1 hy).1
        rw [← HO.out.1, List.length_map, HO.out.2] at h1
        exact h1)
      clear hin
      go_wp2_with (fail)
      go_ret
      exact ⟨by rw [HE.out]; rfl, hs⟩
end
end Go.Proofs.Ytdcagaaanbgcoaa
namespace Go.Proofs.Ytdcagaaanbgcoaa
open Go.RowKit Go.Mem Go.Cells Go.Lines
variable {W w : World} {H : List HProp}
/-- n lines made one behind the other. -/
def frL (n : Nat) (nx : Int) (fc : List C) : List LN := (List.range n).map fun j : Nat => (nx + (j : Int), fc)
theorem frL_len (n : Nat) (nx : Int) (fc : List C) : (frL n nx fc).length = n := by unfold frL; rw [List.length_map, List.length_range]
theorem frL_succ (n : Nat) (nx : Int) (fc : List C) : frL (n + 1) nx fc = frL n nx fc ++ [(nx + (n : Int), fc)] := by unfold frL; rw [List.range_succ, List.map_append]; rfl
abbrev frC (cols : Nat) (a : At) : List C := eraseG (List.replicate cols (bC At.z)) 0 cols a
theorem frC_ok (n : Nat) (a : At) : Ok (frC n a) := (erase_eq (Ok.blanks n At.z) 0 n a).2
theorem frC_len (n : Nat) (a : At) : (frC n a).length = n := by rw [eraseR_len _ _ _ _ (Ok.blanks n At.z), List.length_replicate]
theorem frL_ok {n cols : Nat} {nx : Int} {a : At} (h0 : 0 < cols) (h1 : cols ≤ 512) : LOK (frL n nx (frC cols a)) := fun x hx => by
  unfold frL at hx
  obtain ⟨j, _, rfl⟩ := List.mem_map.1 hx
  exact ⟨by rw [frC_len]; exact h0, by rw [frC_len]; exact h1, frC_ok _ _⟩
abbrev zrow : List Value := [.int .i64 0, .pointer none]
theorem lz2 (ys : List PL) (k : Nat) : All6 2 (lvs ys ++ List.replicate k zrow) := fun r hr => by
  rcases List.mem_append.1 hr with h | h
  · exact lvs2 ys r h
  · rw [(List.mem_replicate.1 h).2]; rfl
theorem lz_set (ys : List PL) (k : Nat) (x : PL) : (lvs ys ++ List.replicate (k + 1) zrow).set ys.length (plL x) = lvs (ys ++ [x]) ++ List.replicate k zrow := by
  rw [List.replicate_succ, ← lvs_len, lvs_app]
  simp [lvs]
theorem zero81 : (Try.prog.info? 81).map (·.zero) = some (some (.agg #[.int .i64 0, .pointer none])) := by kernel_rfl
theorem slty44 : SlTy Try.prog 44 81 2 16 := ⟨Try.underlying44, by obtain ⟨i0, hi, hz0, hz1, hz2⟩ := info_parts (show (Try.prog.info? 81).map (fun i => (i.zero, i.size, i.bytes)) = some (some (.agg #[.int .i64 0, .pointer none]), 2, 16) by kernel_rfl); exact ⟨i0, _, hi, hz0, hz1, hz2, rfl⟩, by decide⟩
attribute [local irreducible] rowTy oneTy World.setCell World.setCells World.alloc World.drew World.drewN Calls sat cel own blk old wpQuiet wpList cmb cmb1 rwP cls rws wi wh fst_ World.rangeAt lrw lnP stP lsP dsP lvs frL
theorem fresh45 {b s n cols most nm pm : Nat} {keeps : Bool} {top bot nx : Int} {am : Option Addr} {SL : List LN} {at_ : At} (hn : n ≤ 512) (c0 : 1 ≤ cols) (c1 : cols ≤ 512) (h : 0 < nx) (hb : nx + n ≤ 1000000) (hs : sat W (cel b 46 [.pointer (some ⟨s, 0, none⟩), .bool keeps, .int .i64 cols, .slice am nm pm, .int .i64 top, .int .i64 bot] :: stP s most nx SL :: H) w) :
    Calls Try.prog 45 #[.pointer (some ⟨b, 0, none⟩), .int .i64 (n : Int), aV at_] w fun e w' => ∃ g, e = .returned (.slice (some ⟨g, 0, none⟩) n n) ∧ sat W (lnP 81 96 (.slice (some ⟨g, 0, none⟩) n n) (frL n nx (frC cols at_)) :: cel b 46 [.pointer (some ⟨s, 0, none⟩), .bool keeps, .int .i64 cols, .slice am nm pm, .int .i64 top, .int .i64 bot] :: stP s most (nx + n) SL :: H) w' := by
  obtain ⟨fg, bg, fl⟩ := at_
  have HB := Lib.hid hb
  have HX0 := Lib.hid h
  clear hb h
  go_enter Try.func45, Try.ntmps45
  go_wp2_with (((with_reducible refine isl ?_); first | ((with_reducible apply mkr hs); exact rfl; exact rfl; exact rfl; exact rfl; exact slty44; exact zero81; exact rfl; omega; (unfold maxLen; omega); clear hs; intro g w hs) | ((with_reducible refine wrap hs ?_); clear hs; (generalize w.heap.size = z5); intro w hs)))
  go_loopw [13] (fun i wr => ∃ (k : Nat) (ys : List PL), k ≤ n ∧ i = .int .i64 (k : Int) ∧ Hid (ys.length = k ∧ ys.map PL.ln = frL k nx (frC cols ⟨fg, bg, fl⟩)) ∧ sat W (own 81 2 (.slice (some ⟨g, 0, none⟩) n n) n (lvs ys ++ List.replicate (n - k) zrow).flatten :: lrw 96 ys :: cel z5 25 [.int .u32 fg, .int .u32 bg, .int .u16 fl] :: cel b 46 [.pointer (some ⟨s, 0, none⟩), .bool keeps, .int .i64 cols, .slice am nm pm, .int .i64 top, .int .i64 bot] :: stP s most (nx + (k : Int)) SL :: H) wr) (fun i _ => ((n : Int) - intOf i).toNat)
  case atStart => exact ⟨0, [], Nat.zero_le _, rfl, Lib.hid ⟨rfl, by unfold frL; rfl⟩, by
    have e : lvs [] ++ List.replicate (n - 0) zrow = List.replicate n (Value.agg #[.int .i64 0, .pointer none]).cells.toList := by unfold lvs; rfl
    have e2 : nx + ((0 : Nat) : Int) = nx := by omega
    rw [e, e2]
    have h1 := lrw_nil (R := 96) hs
    refine sb_from ?_ h1; repeat constructor⟩
  case round =>
    clear hs
    obtain ⟨k, ys, hk, rfl, HY, hs⟩ := hrel
    by_cases hkn : k < n
    · have hkn2 : (k : Int) < (n : Int) := by omega
      have HS : Hid (∀ x : PL, (lvs ys ++ List.replicate (n - k) zrow).set k [.int .i64 x.id, .pointer (some ⟨x.b, 0, none⟩)] = lvs (ys ++ [x]) ++ List.replicate (n - (k + 1)) zrow) := Lib.hid fun x => by
        have h1 := lz_set ys (n - (k + 1)) x
        rw [HY.out.1, show n - (k + 1) + 1 = n - k from by omega] at h1
        exact h1
      have HL : Hid (k < (lvs ys ++ List.replicate (n - k) zrow).length) := Lib.hid (by rw [List.length_append, lvs_len, HY.out.1, List.length_replicate]; omega)
      have HN : Hid (0 < nx + (k : Int) ∧ nx + (k : Int) ≤ 1000000) := Lib.hid (by have h1 := HB.out; have h2 := HX0.out; omega)
      obtain ⟨nk, hnk⟩ : ∃ nk, nx + (k : Int) = nk := ⟨_, rfl⟩
      have HNK := Lib.hid hnk
      rw [hnk] at hs HN
      clear hnk
      go_upto_region 5 with fail
      refine region_mix [([0, 1, 2, 3, 4, 5, 6, 7, 8, 9, 10], [11]), ([12, 13, 14, 15], [16])] [] hs (fun _ h => by (show sat W [cel b 46 [.pointer (some ⟨s, 0, none⟩), .bool keeps, .int .i64 cols, .slice am nm pm, .int .i64 top, .int .i64 bot], cel z5 25 [.int .u32 fg, .int .u32 bg, .int .u16 fl]] _; refine sb_from ?_ h; repeat constructor)) (by kernel_rfl) (by kernel_rfl) (fun _ _ _ _ _ h => h) ?_
      simp only [segs, nths, nth, List.append_nil, List.nil_append, List.cons_append, List.map_cons, List.map_nil]
      refine seg_reads (fun _ h => by (show sat W [cel b 46 [.pointer (some ⟨s, 0, none⟩), .bool keeps, .int .i64 cols, .slice am nm pm, .int .i64 top, .int .i64 bot], cel z5 25 [.int .u32 fg, .int .u32 bg, .int .u16 fl]] _; refine sb_from ?_ h; repeat constructor)) ?_; intro X f hne hf hcl; (try simp only [Act.put, List.setIfInBounds_toArray, List.set_cons_succ, List.set_cons_zero]); (repeat ((first | ((with_reducible apply ldsq (cs := [.int .u32 fg, .int .u32 bg, .int .u16 fl]) 3 (fun x => (hf x).b1)); exact rfl; exact rfl; exact rfl; exact row33; exact rfl; exact rfl) | ((with_reducible apply ldqx); exact rfl; exact rfl; exact rfl; (exact fun x => (hf x).b0); exact rfl; kernel_rfl) | go_big_quiet_step (fail)); (try simp only [Act.put, List.setIfInBounds_toArray, List.set_cons_succ, List.set_cons_zero]))); refine wpQuiet_nil ?_; clear hcl hf hne hs f X; intro w hs
      go_wp2_with ((go_at_call 65; refine (fresh8 (a := ⟨fg, bg, fl⟩) c0 c1 HN.out.1 HN.out.2 (by (apply sk_from (hs := hs); repeat constructor))).mono ?_; clear hs; rintro e w ⟨b2, rfl, hs⟩))
      (refine seg_on hs (fun _ h => h) ?_ ?_)
      · exact fun _ h => by (show sat W [cel b 46 [.pointer (some ⟨s, 0, none⟩), .bool keeps, .int .i64 cols, .slice am nm pm, .int .i64 top, .int .i64 bot], cel z5 25 [.int .u32 fg, .int .u32 bg, .int .u16 fl]] _; refine sb_from ?_ h; repeat constructor)
      clear hs; intro hs
      refine seg_reads (fun _ h => by (show sat W [cel b 46 [.pointer (some ⟨s, 0, none⟩), .bool keeps, .int .i64 cols, .slice am nm pm, .int .i64 top, .int .i64 bot], cel z5 25 [.int .u32 fg, .int .u32 bg, .int .u16 fl]] _; refine sb_from ?_ h; repeat constructor)) ?_; intro X f hne hf hcl; (try simp only [Act.put, List.setIfInBounds_toArray, List.set_cons_succ, List.set_cons_zero]); (repeat ((go_big_quiet_step (fail)); (try simp only [Act.put, List.setIfInBounds_toArray, List.set_cons_succ, List.set_cons_zero]))); refine wpQuiet_nil ?_; clear hcl hf hne hs f X; intro w hs
      go_wp2_with ((((with_reducible apply stor (c := [.int .i64 nk, .pointer (some ⟨b2, 0, none⟩)]) hs.b2); exact rfl; exact rfl; exact rfl; exact rfl; exact HL.out; exact lz2 _ _; exact row81; exact rfl; exact rfl; exact rfl; clear hs; intro w hs; rw [HS.out ⟨nk, b2, frC cols ⟨fg, bg, fl⟩⟩] at hs)))
      (refine seg_on hs (fun _ h => h) ?_ ?_)
      · exact fun _ h => by (show sat W [cel b 46 [.pointer (some ⟨s, 0, none⟩), .bool keeps, .int .i64 cols, .slice am nm pm, .int .i64 top, .int .i64 bot], cel z5 25 [.int .u32 fg, .int .u32 bg, .int .u16 fl]] _; refine sb_from ?_ h; repeat constructor)
      clear hs; intro hs
      refine seg_last (fun _ h => by (show sat W [cel b 46 [.pointer (some ⟨s, 0, none⟩), .bool keeps, .int .i64 cols, .slice am nm pm, .int .i64 top, .int .i64 bot], cel z5 25 [.int .u32 fg, .int .u32 bg, .int .u16 fl]] _; refine sb_from ?_ h; repeat constructor)) ?_; intro X f hne hf hcl; (try simp only [Act.put, List.setIfInBounds_toArray, List.set_cons_succ, List.set_cons_zero]); (repeat ((fail); (try simp only [Act.put, List.setIfInBounds_toArray, List.set_cons_succ, List.set_cons_zero]))); refine wpQuiet_nil ?_; clear hcl hf hne hs f X; intro w hs
      go_wp2_with fail
      go_roundw
      case rel =>
        refine ⟨k + 1, ys ++ [⟨nk, b2, frC cols ⟨fg, bg, fl⟩⟩], by omega, by go_num, Lib.hid ⟨by rw [List.length_append, HY.out.1]; rfl, by rw [List.map_append, HY.out.2, frL_succ, HNK.out]; rfl⟩, ?_⟩
        have e : nx + ((k + 1 : Nat) : Int) = nk + 1 := by have := HNK.out; push_cast; omega
        rw [e]
        have h1 := lrw_snoc (y := ⟨nk, b2, frC cols ⟨fg, bg, fl⟩⟩) (by refine sb_from ?_ hs; repeat constructor : sat W (rwP 96 b2 (frC cols ⟨fg, bg, fl⟩) :: lrw 96 ys :: own 81 2 (.slice (some ⟨g, 0, none⟩) n n) n (lvs (ys ++ [⟨nk, b2, frC cols ⟨fg, bg, fl⟩⟩]) ++ List.replicate (n - (k + 1)) zrow).flatten :: cel z5 25 [.int .u32 fg, .int .u32 bg, .int .u16 fl] :: cel b 46 [.pointer (some ⟨s, 0, none⟩), .bool keeps, .int .i64 cols, .slice am nm pm, .int .i64 top, .int .i64 bot] :: stP s most (nk + 1) SL :: H) w)
        refine sb_from ?_ h1; repeat constructor
      case measure => simp [intOf]; omega
    · have hge : ¬ (k : Int) < (n : Int) := by omega
      obtain rfl : k = n := by omega
      rw [Nat.sub_self, List.replicate_zero, List.append_nil] at hs
      clear hkn
      go_wp2_with fail
      go_ret
      have h1 := ln_close HY.out.1 (by refine sb_from ?_ hs; repeat constructor : sat W (own 81 2 (.slice (some ⟨g, 0, none⟩) k k) k (lvs ys).flatten :: lrw 96 ys :: cel b 46 [.pointer (some ⟨s, 0, none⟩), .bool keeps, .int .i64 cols, .slice am nm pm, .int .i64 top, .int .i64 bot] :: stP s most (nx + (k : Int)) SL :: H) wr)
      rw [HY.out.2] at h1
      exact ⟨g, rfl, h1⟩
/-- Lines that were made by a store: their ids. -/
def IDK (nx : Int) (L : List LN) : Prop := ∀ x ∈ L, 1 ≤ x.1 ∧ x.1 < nx
/-- Lines pushed one behind the other. -/
def pushs (most : Nat) (SL ls : List LN) : List LN := ls.foldl (fun S x => push most S x) SL
theorem pushs_succ {most : Nat} {SL ls : List LN} {i : Nat} {x : LN} (h : ls[i]? = some x) : pushs most SL (ls.take (i + 1)) = push most (pushs most SL (ls.take i)) x := by
  unfold pushs
  rw [List.take_add_one, h, List.foldl_append]
  rfl
theorem pushs_le {most : Nat} : ∀ (ls SL : List LN), SL.length ≤ most → (pushs most SL ls).length ≤ most
  | [], _, h => h
  | x :: ls, SL, h => pushs_le ls (push most SL x) (push_len most SL x h)
theorem spush39 {b s n N f p c most : Nat} {keeps : Bool} {cols : Nat} {top bot nx : Int} {g : Nat} {ps : List PL} {L SL : List LN} (HO : Hid (ps.map PL.ln = L ∧ ps.length = N)) (hf : f + n ≤ N) (hN : N ≤ 512) (ok : LOK L) (idk : IDK nx L) (hm : most ≤ 10000)
    (hs : sat W (cel b 46 [.pointer (some ⟨s, 0, none⟩), .bool keeps, .int .i64 cols, .slice (some ⟨g, 0, none⟩) N p, .int .i64 top, .int .i64 bot] :: own 81 2 (.slice (some ⟨g, 0, none⟩) N p) N (lvs ps).flatten :: lrw 96 ps :: stP s most nx SL :: H) w) :
    Calls Try.prog 39 #[.pointer (some ⟨b, 0, none⟩), .slice (some ⟨g, f * 2, none⟩) n c] w fun e w' => e = .returned (.tuple #[]) ∧ sat W (cel b 46 [.pointer (some ⟨s, 0, none⟩), .bool keeps, .int .i64 cols, .slice (some ⟨g, 0, none⟩) N p, .int .i64 top, .int .i64 bot] :: own 81 2 (.slice (some ⟨g, 0, none⟩) N p) N (lvs ps).flatten :: lrw 96 ps :: stP s most nx (pushs most SL ((L.drop f).take n)) :: H) w' := by
  have hnb : n ≤ 512 := by omega
  have HF := Lib.hid (And.intro hf hN)
  have HK := Lib.hid (And.intro ok idk)
  have HM := Lib.hid hm
  clear hf hN ok idk hm
  have e0 : pushs most SL (((L.drop f).take n).take 0) = SL := by rw [List.take_zero]; rfl
  go_enter Try.func39, Try.ntmps39
  go_wp2_with fail
  go_loopw [8] (fun i wr => ∃ k : Nat, k ≤ n ∧ i = .int .i64 (k : Int) ∧ sat W (cel b 46 [.pointer (some ⟨s, 0, none⟩), .bool keeps, .int .i64 cols, .slice (some ⟨g, 0, none⟩) N p, .int .i64 top, .int .i64 bot] :: own 81 2 (.slice (some ⟨g, 0, none⟩) N p) N (lvs ps).flatten :: lrw 96 ps :: stP s most nx (pushs most SL (((L.drop f).take n).take k)) :: H) wr) (fun i _ => ((n : Int) - intOf i).toNat)
  case atStart => exact ⟨0, Nat.zero_le _, rfl, by rw [e0]; exact hs⟩
  case round =>
    clear hs
    obtain ⟨k, hk, rfl, hs⟩ := hrel
    by_cases hkn : k < n
    · have hkn2 : (k : Int) < (n : Int) := by omega
      obtain ⟨⟨xid, xb, xl⟩, hx⟩ : ∃ x, ps[f + k]? = some x := ⟨_, List.getElem?_eq_getElem (by have := HF.out; rw [HO.out.2]; omega)⟩
      have hx2 : L[f + k]? = some (xid, xl) := by rw [← HO.out.1, List.getElem?_map, hx]; rfl
      have hx3 : ((L.drop f).take n)[k]? = some (xid, xl) := by rw [List.getElem?_take, if_pos hkn, List.getElem?_drop]; exact hx2
      have HP := Lib.hid (pushs_succ (most := most) (SL := SL) hx3)
      have hmem : (xid, xl) ∈ L := List.mem_of_getElem? hx2
      obtain ⟨m0, m1, m2⟩ := HK.out.1 _ hmem
      have HID := Lib.hid (HK.out.2 _ hmem)
      simp only at m0 m1 m2 HID
      obtain ⟨m, hm⟩ : ∃ m, xl.length = m := ⟨_, rfl⟩
      rw [hm] at m0 m1
      have HLL := Lib.hid hm
      have HOK := Lib.hid m2
      have HRG : Hid (∀ w' H', sat W (own 81 2 (.slice (some ⟨g, 0, none⟩) N p) N (lvs ps).flatten :: H') w' → w'.rangeAt g (f * 2 + k * 2) (plL ⟨xid, xb, xl⟩)) := Lib.hid fun w' H' h => by
        rw [← Nat.add_mul]
        exact h.row_range (lvs_get hx) (lvs2 _)
      have HX := Lib.hid hx
      have hs1 := lrw_at hx hs.b2
      clear hx hx2 hx3 hmem m2 hm hs
      have hs : sat W (cel b 46 [.pointer (some ⟨s, 0, none⟩), .bool keeps, .int .i64 cols, .slice (some ⟨g, 0, none⟩) N p, .int .i64 top, .int .i64 bot] :: own 81 2 (.slice (some ⟨g, 0, none⟩) N p) N (lvs ps).flatten :: rwP 96 xb xl :: lrw 96 (ps.take (f + k)) :: lrw 96 (ps.drop (f + k + 1)) :: stP s most nx (pushs most SL (((L.drop f).take n).take k)) :: H) wr := by refine sb_from ?_ hs1; repeat constructor
      clear hs1
      go_upto_region 3 with (((with_reducible refine isl ?_); first | ((with_reducible apply ldsc (cs := plL ⟨xid, xb, xl⟩)); exact rfl; exact rfl; exact rfl; exact HRG.out _ _ hs.b1; exact row81) | ((with_reducible refine wrap hs ?_); clear hs; generalize wr.heap.size = z9; intro w hs) | ((with_reducible apply stswx); exact rfl; exact rfl; exact rfl; (exact hs.b0); exact rfl; exact row81; exact rfl; exact rfl; exact rfl; clear hs; intro w hs)))
      refine region_mix [([0, 1, 2, 3, 4], [5])] [] hs (fun _ h => by (show sat W [cel b 46 [.pointer (some ⟨s, 0, none⟩), .bool keeps, .int .i64 cols, .slice (some ⟨g, 0, none⟩) N p, .int .i64 top, .int .i64 bot], cel z9 81 [.int .i64 xid, .pointer (some ⟨xb, 0, none⟩)]] _; refine sb_from ?_ h; repeat constructor)) (by kernel_rfl) (by kernel_rfl) (fun _ _ _ _ _ h => h) ?_
      simp only [segs, nths, nth, List.append_nil, List.nil_append, List.cons_append, List.map_cons, List.map_nil]
      refine seg_reads (fun _ h => by (show sat W [cel b 46 [.pointer (some ⟨s, 0, none⟩), .bool keeps, .int .i64 cols, .slice (some ⟨g, 0, none⟩) N p, .int .i64 top, .int .i64 bot], cel z9 81 [.int .i64 xid, .pointer (some ⟨xb, 0, none⟩)]] _; refine sb_from ?_ h; repeat constructor)) ?_; intro X f hne hf hcl; (try simp only [Act.put, List.setIfInBounds_toArray, List.set_cons_succ, List.set_cons_zero]); (repeat ((first | ((with_reducible apply ldsqx 2); exact rfl; exact rfl; exact rfl; (first | exact fun x => (hf x).b0 | exact fun x => (hf x).b1); exact row81; exact rfl; exact rfl) | ((with_reducible apply ldqx); exact rfl; exact rfl; exact rfl; (exact fun x => (hf x).b0); exact rfl; kernel_rfl) | go_big_quiet_step (fail)); (try simp only [Act.put, List.setIfInBounds_toArray, List.set_cons_succ, List.set_cons_zero]))); refine wpQuiet_nil ?_; clear hcl hf hne hs f X; intro w hs
      go_wp2_with ((go_at_call 64; refine (push9 (id := xid) HLL.out m0 m1 HOK.out HID.out HM.out (by (apply sk_from (hs := hs); repeat constructor))).mono ?_; clear hs; rintro e w ⟨rfl, hs⟩; rw [← HP.out] at hs))
      (refine seg_on hs (fun _ h => h) ?_ ?_)
      · exact fun _ h => by (show sat W [cel b 46 [.pointer (some ⟨s, 0, none⟩), .bool keeps, .int .i64 cols, .slice (some ⟨g, 0, none⟩) N p, .int .i64 top, .int .i64 bot], cel z9 81 [.int .i64 xid, .pointer (some ⟨xb, 0, none⟩)]] _; refine sb_from ?_ h; repeat constructor)
      clear hs; intro hs
      refine seg_last (fun _ h => by (show sat W [cel b 46 [.pointer (some ⟨s, 0, none⟩), .bool keeps, .int .i64 cols, .slice (some ⟨g, 0, none⟩) N p, .int .i64 top, .int .i64 bot], cel z9 81 [.int .i64 xid, .pointer (some ⟨xb, 0, none⟩)]] _; refine sb_from ?_ h; repeat constructor)) ?_; intro X f hne hf hcl; (try simp only [Act.put, List.setIfInBounds_toArray, List.set_cons_succ, List.set_cons_zero]); (repeat ((fail); (try simp only [Act.put, List.setIfInBounds_toArray, List.set_cons_succ, List.set_cons_zero]))); refine wpQuiet_nil ?_; clear hcl hf hne hs f X; intro w hs
      go_wp2_with fail
      go_roundw
      case rel =>
        refine ⟨k + 1, by omega, by go_num, ?_⟩
        have h4 := lrw_put (l := ps) (i := f + k) (y := ⟨xid, xb, xl⟩) (List.getElem?_eq_some_iff.1 HX.out).1 (by refine sb_from ?_ hs; repeat constructor : sat W (rwP 96 xb xl :: lrw 96 (ps.take (f + k)) :: lrw 96 (ps.drop (f + k + 1)) :: cel b 46 [.pointer (some ⟨s, 0, none⟩), .bool keeps, .int .i64 cols, .slice (some ⟨g, 0, none⟩) N p, .int .i64 top, .int .i64 bot] :: own 81 2 (.slice (some ⟨g, 0, none⟩) N p) N (lvs ps).flatten :: stP s most nx (pushs most SL (((L.drop f).take n).take (k + 1))) :: H) w)
        rw [set_same HX.out] at h4
        refine sb_from ?_ h4; repeat constructor
      case measure => simp [intOf]; omega
    · have hge : ¬ (k : Int) < (n : Int) := by omega
      obtain rfl : k = n := by omega
      have e1 : ((L.drop f).take k).take k = (L.drop f).take k := by rw [List.take_take, Nat.min_self]
      rw [e1] at hs
      clear hkn
      go_wp2_with fail
      refine end_end0 rfl rfl ⟨rfl, hs⟩
theorem sdrop38 {v1 v2 : Value} (hs : sat W H w) : Calls Try.prog 38 #[v1, v2] w fun e w' => e = .returned (.tuple #[]) ∧ sat W H w' := by
  go_enter Try.func38, Try.ntmps38
  go_wp2_with fail
  refine end_end0 rfl rfl ⟨rfl, hs⟩
end Go.Proofs.Ytdcagaaanbgcoaa
