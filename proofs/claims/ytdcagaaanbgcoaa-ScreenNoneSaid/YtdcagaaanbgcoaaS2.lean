/- Law 9: a screen in memory; what is asked of it. -/
import Derived.Test.YtdcagaaanbgcoaaL5
namespace Go.Proofs.Ytdcagaaanbgcoaa
open Go.RowKit Go.Mem Go.Cells Go.Lines
variable {W w : World} {H : List HProp}
/-- The first place of what has an id; -1: none. -/
def ffst (L : List LN) (id : Int) : Int :=
  match L with
  | [] => -1
  | x :: l => if x.1 = id then 0 else if 0 ≤ ffst l id then ffst l id + 1 else -1
theorem ffst_ge : ∀ (L : List LN) (id : Int), -1 ≤ ffst L id
  | [], _ => by simp [ffst]
  | x :: l, id => by
    have := ffst_ge l id
    unfold ffst
    split
    · omega
    · split <;> omega
theorem ffst_at : ∀ (L : List LN) (id : Int) (i : Nat), (∀ j y, j < i → L[j]? = some y → y.1 ≠ id) → i ≤ L.length → ffst L id = if 0 ≤ ffst (L.drop i) id then ffst (L.drop i) id + i else -1
  | L, id, 0, _, _ => by
    have := ffst_ge L id
    rw [List.drop_zero]
    split <;> omega
  | [], id, i + 1, _, h => by simp at h
  | x :: l, id, i + 1, h, hl => by
    have h0 : x.1 ≠ id := h 0 x (by omega) rfl
    have ih := ffst_at l id i (fun j y hj hy => h (j + 1) y (by omega) hy) (by simpa using hl)
    have hg := ffst_ge (l.drop i) id
    rw [ffst, if_neg h0, ih, List.drop_succ_cons]
    split
    · rw [if_pos (by omega)]; push_cast; omega
    · rw [if_neg (by omega)]
theorem ffst_none {L : List LN} {id : Int} (h : ∀ (j : Nat) (y : LN), L[j]? = some y → y.1 ≠ id) : ffst L id = -1 := by
  have h1 := ffst_at L id L.length (fun j y _ hy => h j y hy) (Nat.le_refl _)
  rw [List.drop_length] at h1
  rw [h1]
  simp [ffst]
theorem ffst_hit {L : List LN} {id : Int} {i : Nat} {y : LN} (h : ∀ (j : Nat) (y : LN), j < i → L[j]? = some y → y.1 ≠ id) (hi : L[i]? = some y) (hy : y.1 = id) : ffst L id = i := by
  have hl := (List.getElem?_eq_some_iff.1 hi).1
  have h1 := ffst_at L id i h (by omega)
  have e : L.drop i = y :: L.drop (i + 1) := by rw [List.drop_eq_getElem_cons hl, (List.getElem?_eq_some_iff.1 hi).2]
  rw [e, ffst, if_pos hy] at h1
  rw [h1, if_pos (by omega)]
  omega
/-- A screen: its store's block, and its own lines. -/
structure Sc where
  keeps : Bool
  cols : Nat
  top : Int
  bot : Int
  L : List LN
def scP (b s : Nat) (x : Sc) : HProp := fun h => ∃ (a : Option Addr) (p : Nat), star (cel b 46 [.pointer (some ⟨s, 0, none⟩), .bool x.keeps, .int .i64 x.cols, .slice a x.L.length p, .int .i64 x.top, .int .i64 x.bot]) (lnP 81 96 (.slice a x.L.length p) x.L) h
theorem sc_open {b s n : Nat} {keeps : Bool} {cols : Nat} {top bot : Int} {L : List LN} (hn : L.length = n) (hs : sat W (scP b s ⟨keeps, cols, top, bot, L⟩ :: H) w) : ∃ (ps : List PL) (a : Option Addr) (p : Nat), Hid (ps.map PL.ln = L ∧ ps.length = n) ∧ sat W (cel b 46 [.pointer (some ⟨s, 0, none⟩), .bool keeps, .int .i64 cols, .slice a n p, .int .i64 top, .int .i64 bot] :: own 81 2 (.slice a n p) n (lvs ps).flatten :: lrw 96 ps :: H) w := by
  subst hn
  unfold scP at hs
  obtain ⟨a, hs⟩ := hs.ex
  obtain ⟨p, hs⟩ := hs.ex
  obtain ⟨ps, h1, h2, hs⟩ := ln_open rfl hs.unstar.b1
  exact ⟨ps, a, p, Lib.hid ⟨h1, h2⟩, by refine sb_from ?_ hs; repeat constructor⟩
theorem sc_close {b s n p : Nat} {keeps : Bool} {cols : Nat} {top bot : Int} {L : List LN} {a : Option Addr} {ps : List PL} (HO : Hid (ps.map PL.ln = L ∧ ps.length = n)) (hs : sat W (cel b 46 [.pointer (some ⟨s, 0, none⟩), .bool keeps, .int .i64 cols, .slice a n p, .int .i64 top, .int .i64 bot] :: own 81 2 (.slice a n p) n (lvs ps).flatten :: lrw 96 ps :: H) w) : sat W (scP b s ⟨keeps, cols, top, bot, L⟩ :: H) w := by
  obtain ⟨h1, h2⟩ := HO.out
  have h3 := ln_close h2 (by refine sb_from ?_ hs; repeat constructor : sat W (own 81 2 (.slice a n p) n (lvs ps).flatten :: lrw 96 ps :: cel b 46 [.pointer (some ⟨s, 0, none⟩), .bool keeps, .int .i64 cols, .slice a n p, .int .i64 top, .int .i64 bot] :: H) w)
  rw [h1] at h3
  have hn : L.length = n := by rw [← h1, List.length_map, h2]
  subst hn
  have h4 := h3.b1.star
  unfold scP
  exact h4.imp fun h k => ⟨a, p, k⟩
theorem row81 : rowTy Try.prog 81 2 = true := by kernel_rfl
theorem one44 : oneTy Try.prog 44 = true := by kernel_rfl
theorem one28 : oneTy Try.prog 28 = true := by kernel_rfl
theorem one53 : oneTy Try.prog 53 = true := by kernel_rfl
theorem fld81 (w : World) (x y : Value) : (Instr.field 81 (.agg #[x, y]) 0).run Try.prog w = .ok x w := by
  simp only [Instr.field, part, go_sem]
  simp [asAgg, go_sem]
theorem fld81' (w : World) (x y : Value) : (Instr.field 81 (.agg #[x, y]) 1).run Try.prog w = .ok y w := by
  simp only [Instr.field, part, go_sem]
  simp [asAgg, go_sem]
attribute [local irreducible] rowTy oneTy World.setCell World.setCells World.alloc World.drew World.drewN Calls sat cel own blk old wpQuiet wpList cmb cmb1 rwP cls rws wi wh fst_ World.rangeAt lrw lnP stP lsP dsP lvs
theorem may44 {x : Int} (hs : sat W H w) : Calls Try.prog 44 #[.int .i64 x] w fun e w' => e = .returned (.bool (decide (1 ≤ x ∧ x ≤ 512))) ∧ sat W H w' := by
  by_cases h1 : 1 ≤ x
  · have g1 : decide (1 ≤ x) = true := decide_eq_true h1
    by_cases h2 : x ≤ 512
    · have g2 : decide (x ≤ 512) = true := decide_eq_true h2
      have HD := Lib.hid (show decide (1 ≤ x ∧ x ≤ 512) = true from decide_eq_true ⟨h1, h2⟩)
      rw [HD.out]
      clear h1 h2
      go_enter Try.func44, Try.ntmps44
      go_wp2_with fail
      go_ret
      exact ⟨rfl, hs⟩
    · have g2 : decide (x ≤ 512) = false := decide_eq_false h2
      have HD := Lib.hid (show decide (1 ≤ x ∧ x ≤ 512) = false from decide_eq_false (by omega))
      rw [HD.out]
      clear h1 h2
      go_enter Try.func44, Try.ntmps44
      go_wp2_with fail
      go_ret
      exact ⟨rfl, hs⟩
  · have g1 : decide (1 ≤ x) = false := decide_eq_false h1
    have HD := Lib.hid (show decide (1 ≤ x ∧ x ≤ 512) = false from decide_eq_false (by omega))
    rw [HD.out]
    clear h1
    go_enter Try.func44, Try.ntmps44
    go_wp2_with fail
    go_ret
    exact ⟨rfl, hs⟩
section
variable {b s n p : Nat} {keeps : Bool} {cols : Nat} {top bot : Int} {a : Option Addr}
theorem sready37 (h : 0 < n) (hs : sat W (cel b 46 [.pointer (some ⟨s, 0, none⟩), .bool keeps, .int .i64 cols, .slice a n p, .int .i64 top, .int .i64 bot] :: H) w) : Calls Try.prog 37 #[.pointer (some ⟨b, 0, none⟩)] w fun e w' => e = .returned (.bool true) ∧ sat W (cel b 46 [.pointer (some ⟨s, 0, none⟩), .bool keeps, .int .i64 cols, .slice a n p, .int .i64 top, .int .i64 bot] :: H) w' := by
  have g1 : decide ((0 : Int) < (n : Int)) = true := decide_eq_true (by omega)
  go_enter Try.func37, Try.ntmps37
  go_wp2_with (first | ((with_reducible refine isl ?_); first | ((with_reducible apply ld hs.b0); exact rfl; exact rfl; exact rfl; exact rfl; kernel_rfl) | ((with_reducible apply st hs.b0); exact rfl; exact rfl; exact rfl; exact rfl; exact rfl; exact rfl; kernel_rfl; exact rfl; clear hs; intro w hs) | ((with_reducible apply stc hs.b0); exact rfl; exact rfl; exact rfl; exact rfl; exact rfl; kernel_rfl; exact rfl; clear hs; intro w hs) | ((with_reducible refine wrap hs ?_); clear hs; intro w hs) | ((with_reducible refine wrapn hs ?_); clear hs; intro w hs) | ((with_reducible refine wrapd hs ?_); clear hs; intro w hs)))
  go_ret
  exact ⟨rfl, hs⟩
theorem srows20 (h : 0 < n) (hs : sat W (cel b 46 [.pointer (some ⟨s, 0, none⟩), .bool keeps, .int .i64 cols, .slice a n p, .int .i64 top, .int .i64 bot] :: H) w) : Calls Try.prog 20 #[.pointer (some ⟨b, 0, none⟩)] w fun e w' => e = .returned (.int .i64 n) ∧ sat W (cel b 46 [.pointer (some ⟨s, 0, none⟩), .bool keeps, .int .i64 cols, .slice a n p, .int .i64 top, .int .i64 bot] :: H) w' := by
  go_enter Try.func20, Try.ntmps20
  go_wp2_with (first | (go_at_call 37; refine (sready37 h (by (apply sk_from (hs := hs); repeat constructor))).mono ?_; clear hs; rintro e w ⟨rfl, hs⟩) | ((with_reducible refine isl ?_); first | ((with_reducible apply ld hs.b0); exact rfl; exact rfl; exact rfl; exact rfl; kernel_rfl) | ((with_reducible apply st hs.b0); exact rfl; exact rfl; exact rfl; exact rfl; exact rfl; exact rfl; kernel_rfl; exact rfl; clear hs; intro w hs) | ((with_reducible apply stc hs.b0); exact rfl; exact rfl; exact rfl; exact rfl; exact rfl; kernel_rfl; exact rfl; clear hs; intro w hs) | ((with_reducible refine wrap hs ?_); clear hs; intro w hs) | ((with_reducible refine wrapn hs ?_); clear hs; intro w hs) | ((with_reducible refine wrapd hs ?_); clear hs; intro w hs)))
  go_ret
  exact ⟨rfl, hs⟩
theorem scols21 (h : 0 < n) (hs : sat W (cel b 46 [.pointer (some ⟨s, 0, none⟩), .bool keeps, .int .i64 cols, .slice a n p, .int .i64 top, .int .i64 bot] :: H) w) : Calls Try.prog 21 #[.pointer (some ⟨b, 0, none⟩)] w fun e w' => e = .returned (.int .i64 cols) ∧ sat W (cel b 46 [.pointer (some ⟨s, 0, none⟩), .bool keeps, .int .i64 cols, .slice a n p, .int .i64 top, .int .i64 bot] :: H) w' := by
  go_enter Try.func21, Try.ntmps21
  go_wp2_with (first | (go_at_call 37; refine (sready37 h (by (apply sk_from (hs := hs); repeat constructor))).mono ?_; clear hs; rintro e w ⟨rfl, hs⟩) | ((with_reducible refine isl ?_); first | ((with_reducible apply ld hs.b0); exact rfl; exact rfl; exact rfl; exact rfl; kernel_rfl) | ((with_reducible apply st hs.b0); exact rfl; exact rfl; exact rfl; exact rfl; exact rfl; exact rfl; kernel_rfl; exact rfl; clear hs; intro w hs) | ((with_reducible apply stc hs.b0); exact rfl; exact rfl; exact rfl; exact rfl; exact rfl; kernel_rfl; exact rfl; clear hs; intro w hs) | ((with_reducible refine wrap hs ?_); clear hs; intro w hs) | ((with_reducible refine wrapn hs ?_); clear hs; intro w hs) | ((with_reducible refine wrapd hs ?_); clear hs; intro w hs)))
  go_ret
  exact ⟨rfl, hs⟩
theorem smargins10 (h : 0 < n) (hs : sat W (cel b 46 [.pointer (some ⟨s, 0, none⟩), .bool keeps, .int .i64 cols, .slice a n p, .int .i64 top, .int .i64 bot] :: H) w) : Calls Try.prog 10 #[.pointer (some ⟨b, 0, none⟩)] w fun e w' => e = .returned (.tuple #[.int .i64 top, .int .i64 bot]) ∧ sat W (cel b 46 [.pointer (some ⟨s, 0, none⟩), .bool keeps, .int .i64 cols, .slice a n p, .int .i64 top, .int .i64 bot] :: H) w' := by
  go_enter Try.func10, Try.ntmps10
  go_upto_region 3 with (first | (go_at_call 37; refine (sready37 h (by (apply sk_from (hs := hs); repeat constructor))).mono ?_; clear hs; rintro e w ⟨rfl, hs⟩) | ((with_reducible refine isl ?_); first | ((with_reducible apply ld hs.b0); exact rfl; exact rfl; exact rfl; exact rfl; kernel_rfl) | ((with_reducible apply st hs.b0); exact rfl; exact rfl; exact rfl; exact rfl; exact rfl; exact rfl; kernel_rfl; exact rfl; clear hs; intro w hs) | ((with_reducible apply stc hs.b0); exact rfl; exact rfl; exact rfl; exact rfl; exact rfl; kernel_rfl; exact rfl; clear hs; intro w hs) | ((with_reducible refine wrap hs ?_); clear hs; intro w hs) | ((with_reducible refine wrapn hs ?_); clear hs; intro w hs) | ((with_reducible refine wrapd hs ?_); clear hs; intro w hs)))
  ((try simp only [Act.put, List.setIfInBounds_toArray, List.set_cons_succ, List.set_cons_zero]); refine region_sat hs (by kernel_rfl) (by kernel_rfl) ?_; intro X f hne hf hcl; (repeat ((first | ((with_reducible apply ldq (fun x => (hf x).b0)); exact rfl; exact rfl; exact rfl; exact rfl; kernel_rfl) | go_big_quiet_step (fail)); (try simp only [Act.put, List.setIfInBounds_toArray, List.set_cons_succ, List.set_cons_zero]))); refine wpQuiet_nil ?_; clear hcl hf hne hs f X; intro w hs)
  go_wp2_with fail
  refine end_ret rfl (results_tmp2 rfl _ _ _) ⟨rfl, hs⟩
theorem sat48 {ps : List PL} {i : Nat} {id : Int} {b2 : Nat} {l : List C} (hx : ps[i]? = some ⟨id, b2, l⟩) (hi : i < n) (hs : sat W (cel b 46 [.pointer (some ⟨s, 0, none⟩), .bool keeps, .int .i64 cols, .slice a n p, .int .i64 top, .int .i64 bot] :: own 81 2 (.slice a n p) n (lvs ps).flatten :: H) w) :
    Calls Try.prog 48 #[.pointer (some ⟨b, 0, none⟩), .int .i64 (i : Int)] w fun e w' => e = .returned (.agg #[.int .i64 id, .pointer (some ⟨b2, 0, none⟩)]) ∧ sat W (cel b 46 [.pointer (some ⟨s, 0, none⟩), .bool keeps, .int .i64 cols, .slice a n p, .int .i64 top, .int .i64 bot] :: own 81 2 (.slice a n p) n (lvs ps).flatten :: H) w' := by
  have h : 0 < n := by omega
  obtain ⟨g, rfl⟩ := own_ptr h hs.b1
  have g1 : decide ((i : Int) < 0) = false := decide_eq_false (by omega)
  have g2 : decide ((n : Int) ≤ (i : Int)) = false := decide_eq_false (by omega)
  have HX := Lib.hid (lvs_get hx)
  clear hx
  go_enter Try.func48, Try.ntmps48
  go_wp2_with (first | (go_at_call 20; refine (srows20 h (by (apply sk_from (hs := hs); repeat constructor))).mono ?_; clear hs; rintro e w ⟨rfl, hs⟩) | ((with_reducible refine isl ?_); first | ((with_reducible apply ldor hs.b0); exact rfl; exact rfl; exact rfl; exact HX.out; exact lvs2 _; exact row81) | ((with_reducible apply ldor hs.b1); exact rfl; exact rfl; exact rfl; exact HX.out; exact lvs2 _; exact row81) | ((with_reducible apply ldor hs.b2); exact rfl; exact rfl; exact rfl; exact HX.out; exact lvs2 _; exact row81) | ((with_reducible apply ldor hs.b3); exact rfl; exact rfl; exact rfl; exact HX.out; exact lvs2 _; exact row81) | ((with_reducible apply stsw hs.b0); exact rfl; exact rfl; exact rfl; exact rfl; exact row81; exact rfl; exact rfl; exact rfl; clear hs; intro w hs) | ((with_reducible apply stsw hs.b1); exact rfl; exact rfl; exact rfl; exact rfl; exact row81; exact rfl; exact rfl; exact rfl; clear hs; intro w hs) | ((with_reducible apply stsw hs.b2); exact rfl; exact rfl; exact rfl; exact rfl; exact row81; exact rfl; exact rfl; exact rfl; clear hs; intro w hs) | ((with_reducible apply stsw hs.b3); exact rfl; exact rfl; exact rfl; exact rfl; exact row81; exact rfl; exact rfl; exact rfl; clear hs; intro w hs) | ((with_reducible apply ld hs.b0); exact rfl; exact rfl; exact rfl; exact rfl; kernel_rfl) | ((with_reducible apply ld hs.b1); exact rfl; exact rfl; exact rfl; exact rfl; kernel_rfl) | ((with_reducible apply ld hs.b2); exact rfl; exact rfl; exact rfl; exact rfl; kernel_rfl) | ((with_reducible apply st hs.b0); exact rfl; exact rfl; exact rfl; exact rfl; exact rfl; exact rfl; kernel_rfl; exact rfl; clear hs; intro w hs) | ((with_reducible apply st hs.b1); exact rfl; exact rfl; exact rfl; exact rfl; exact rfl; exact rfl; kernel_rfl; exact rfl; clear hs; intro w hs) | ((with_reducible apply st hs.b2); exact rfl; exact rfl; exact rfl; exact rfl; exact rfl; exact rfl; kernel_rfl; exact rfl; clear hs; intro w hs) | ((with_reducible apply stc hs.b0); exact rfl; exact rfl; exact rfl; exact rfl; exact rfl; kernel_rfl; exact rfl; clear hs; intro w hs) | ((with_reducible apply stc hs.b1); exact rfl; exact rfl; exact rfl; exact rfl; exact rfl; kernel_rfl; exact rfl; clear hs; intro w hs) | ((with_reducible apply stc hs.b2); exact rfl; exact rfl; exact rfl; exact rfl; exact rfl; kernel_rfl; exact rfl; clear hs; intro w hs) | ((with_reducible refine wrap hs ?_); clear hs; (first | generalize w.heap.size = z4); intro w hs) | ((with_reducible refine wrap hs ?_); clear hs; intro w hs) | ((with_reducible refine wrapn hs ?_); clear hs; intro w hs) | ((with_reducible refine wrapd hs ?_); clear hs; intro w hs)))
  (first | refine ret_cell hs.b0 rfl rfl rfl row81 ?_ | refine ret_cell hs.b1 rfl rfl rfl row81 ?_ | refine ret_cell hs.b2 rfl rfl rfl row81 ?_ | refine ret_cell hs.b3 rfl rfl rfl row81 ?_ | refine ret_cell hs.b4 rfl rfl rfl row81 ?_ | refine ret_cell hs.b5 rfl rfl rfl row81 ?_)
  exact ⟨rfl, by refine sb_from ?_ hs; repeat constructor⟩
theorem sat48_no {k : Int} (h : 0 < n) (hk : k < 0 ∨ (n : Int) ≤ k) (hs : sat W (cel b 46 [.pointer (some ⟨s, 0, none⟩), .bool keeps, .int .i64 cols, .slice a n p, .int .i64 top, .int .i64 bot] :: H) w) :
    Calls Try.prog 48 #[.pointer (some ⟨b, 0, none⟩), .int .i64 k] w fun e w' => e = .returned (.agg #[.int .i64 0, .pointer none]) ∧ sat W (cel b 46 [.pointer (some ⟨s, 0, none⟩), .bool keeps, .int .i64 cols, .slice a n p, .int .i64 top, .int .i64 bot] :: H) w' := by
  by_cases h1 : k < 0
  · have g1 : decide (k < 0) = true := decide_eq_true h1
    clear hk
    go_enter Try.func48, Try.ntmps48
    go_wp2_with (first | (go_at_call 20; refine (srows20 h (by (apply sk_from (hs := hs); repeat constructor))).mono ?_; clear hs; rintro e w ⟨rfl, hs⟩) | ((with_reducible refine isl ?_); first | ((with_reducible apply stsw hs.b0); exact rfl; exact rfl; exact rfl; exact rfl; exact row81; exact rfl; exact rfl; exact rfl; clear hs; intro w hs) | ((with_reducible apply stsw hs.b1); exact rfl; exact rfl; exact rfl; exact rfl; exact row81; exact rfl; exact rfl; exact rfl; clear hs; intro w hs) | ((with_reducible apply stsw hs.b2); exact rfl; exact rfl; exact rfl; exact rfl; exact row81; exact rfl; exact rfl; exact rfl; clear hs; intro w hs) | ((with_reducible apply stsw hs.b3); exact rfl; exact rfl; exact rfl; exact rfl; exact row81; exact rfl; exact rfl; exact rfl; clear hs; intro w hs) | ((with_reducible apply ld hs.b0); exact rfl; exact rfl; exact rfl; exact rfl; kernel_rfl) | ((with_reducible apply ld hs.b1); exact rfl; exact rfl; exact rfl; exact rfl; kernel_rfl) | ((with_reducible apply ld hs.b2); exact rfl; exact rfl; exact rfl; exact rfl; kernel_rfl) | ((with_reducible apply st hs.b0); exact rfl; exact rfl; exact rfl; exact rfl; exact rfl; exact rfl; kernel_rfl; exact rfl; clear hs; intro w hs) | ((with_reducible apply st hs.b1); exact rfl; exact rfl; exact rfl; exact rfl; exact rfl; exact rfl; kernel_rfl; exact rfl; clear hs; intro w hs) | ((with_reducible apply st hs.b2); exact rfl; exact rfl; exact rfl; exact rfl; exact rfl; exact rfl; kernel_rfl; exact rfl; clear hs; intro w hs) | ((with_reducible apply stc hs.b0); exact rfl; exact rfl; exact rfl; exact rfl; exact rfl; kernel_rfl; exact rfl; clear hs; intro w hs) | ((with_reducible apply stc hs.b1); exact rfl; exact rfl; exact rfl; exact rfl; exact rfl; kernel_rfl; exact rfl; clear hs; intro w hs) | ((with_reducible apply stc hs.b2); exact rfl; exact rfl; exact rfl; exact rfl; exact rfl; kernel_rfl; exact rfl; clear hs; intro w hs) | ((with_reducible refine wrap hs ?_); clear hs; (first | generalize w.heap.size = z4); intro w hs) | ((with_reducible refine wrap hs ?_); clear hs; intro w hs) | ((with_reducible refine wrapn hs ?_); clear hs; intro w hs) | ((with_reducible refine wrapd hs ?_); clear hs; intro w hs)))
    (first | refine ret_cell hs.b0 rfl rfl rfl row81 ?_ | refine ret_cell hs.b1 rfl rfl rfl row81 ?_ | refine ret_cell hs.b2 rfl rfl rfl row81 ?_ | refine ret_cell hs.b3 rfl rfl rfl row81 ?_ | refine ret_cell hs.b4 rfl rfl rfl row81 ?_ | refine ret_cell hs.b5 rfl rfl rfl row81 ?_)
    exact ⟨rfl, by refine sb_from ?_ hs; repeat constructor⟩
  · have g1 : decide (k < 0) = false := decide_eq_false h1
    have g2 : decide ((n : Int) ≤ k) = true := decide_eq_true (by omega)
    clear hk
    go_enter Try.func48, Try.ntmps48
    go_wp2_with (first | (go_at_call 20; refine (srows20 h (by (apply sk_from (hs := hs); repeat constructor))).mono ?_; clear hs; rintro e w ⟨rfl, hs⟩) | ((with_reducible refine isl ?_); first | ((with_reducible apply stsw hs.b0); exact rfl; exact rfl; exact rfl; exact rfl; exact row81; exact rfl; exact rfl; exact rfl; clear hs; intro w hs) | ((with_reducible apply stsw hs.b1); exact rfl; exact rfl; exact rfl; exact rfl; exact row81; exact rfl; exact rfl; exact rfl; clear hs; intro w hs) | ((with_reducible apply stsw hs.b2); exact rfl; exact rfl; exact rfl; exact rfl; exact row81; exact rfl; exact rfl; exact rfl; clear hs; intro w hs) | ((with_reducible apply stsw hs.b3); exact rfl; exact rfl; exact rfl; exact rfl; exact row81; exact rfl; exact rfl; exact rfl; clear hs; intro w hs) | ((with_reducible apply ld hs.b0); exact rfl; exact rfl; exact rfl; exact rfl; kernel_rfl) | ((with_reducible apply ld hs.b1); exact rfl; exact rfl; exact rfl; exact rfl; kernel_rfl) | ((with_reducible apply ld hs.b2); exact rfl; exact rfl; exact rfl; exact rfl; kernel_rfl) | ((with_reducible apply st hs.b0); exact rfl; exact rfl; exact rfl; exact rfl; exact rfl; exact rfl; kernel_rfl; exact rfl; clear hs; intro w hs) | ((with_reducible apply st hs.b1); exact rfl; exact rfl; exact rfl; exact rfl; exact rfl; exact rfl; kernel_rfl; exact rfl; clear hs; intro w hs) | ((with_reducible apply st hs.b2); exact rfl; exact rfl; exact rfl; exact rfl; exact rfl; exact rfl; kernel_rfl; exact rfl; clear hs; intro w hs) | ((with_reducible apply stc hs.b0); exact rfl; exact rfl; exact rfl; exact rfl; exact rfl; kernel_rfl; exact rfl; clear hs; intro w hs) | ((with_reducible apply stc hs.b1); exact rfl; exact rfl; exact rfl; exact rfl; exact rfl; kernel_rfl; exact rfl; clear hs; intro w hs) | ((with_reducible apply stc hs.b2); exact rfl; exact rfl; exact rfl; exact rfl; exact rfl; kernel_rfl; exact rfl; clear hs; intro w hs) | ((with_reducible refine wrap hs ?_); clear hs; (first | generalize w.heap.size = z4); intro w hs) | ((with_reducible refine wrap hs ?_); clear hs; intro w hs) | ((with_reducible refine wrapn hs ?_); clear hs; intro w hs) | ((with_reducible refine wrapd hs ?_); clear hs; intro w hs)))
    (first | refine ret_cell hs.b0 rfl rfl rfl row81 ?_ | refine ret_cell hs.b1 rfl rfl rfl row81 ?_ | refine ret_cell hs.b2 rfl rfl rfl row81 ?_ | refine ret_cell hs.b3 rfl rfl rfl row81 ?_ | refine ret_cell hs.b4 rfl rfl rfl row81 ?_ | refine ret_cell hs.b5 rfl rfl rfl row81 ?_)
    exact ⟨rfl, by refine sb_from ?_ hs; repeat constructor⟩
theorem sid22 {ps : List PL} {i : Nat} {id : Int} {b2 : Nat} {l : List C} (hx : ps[i]? = some ⟨id, b2, l⟩) (hi : i < n) (hs : sat W (cel b 46 [.pointer (some ⟨s, 0, none⟩), .bool keeps, .int .i64 cols, .slice a n p, .int .i64 top, .int .i64 bot] :: own 81 2 (.slice a n p) n (lvs ps).flatten :: H) w) :
    Calls Try.prog 22 #[.pointer (some ⟨b, 0, none⟩), .int .i64 (i : Int)] w fun e w' => e = .returned (.int .i64 id) ∧ sat W (cel b 46 [.pointer (some ⟨s, 0, none⟩), .bool keeps, .int .i64 cols, .slice a n p, .int .i64 top, .int .i64 bot] :: own 81 2 (.slice a n p) n (lvs ps).flatten :: H) w' := by
  have hfd := fld81
  have HX := Lib.hid hx
  clear hx
  go_enter Try.func22, Try.ntmps22
  go_wp2_with (first | (go_at_call 48; refine (sat48 HX.out hi (by (apply sk_from (hs := hs); repeat constructor))).mono ?_; clear hs; rintro e w ⟨rfl, hs⟩) | ((with_reducible refine isl ?_); first | ((with_reducible refine wrap hs ?_); clear hs; intro w hs) | ((with_reducible refine wrapn hs ?_); clear hs; intro w hs) | ((with_reducible refine wrapd hs ?_); clear hs; intro w hs)))
  go_ret
  exact ⟨rfl, hs⟩
theorem sid22_no {k : Int} (h : 0 < n) (hk : k < 0 ∨ (n : Int) ≤ k) (hs : sat W (cel b 46 [.pointer (some ⟨s, 0, none⟩), .bool keeps, .int .i64 cols, .slice a n p, .int .i64 top, .int .i64 bot] :: H) w) :
    Calls Try.prog 22 #[.pointer (some ⟨b, 0, none⟩), .int .i64 k] w fun e w' => e = .returned (.int .i64 0) ∧ sat W (cel b 46 [.pointer (some ⟨s, 0, none⟩), .bool keeps, .int .i64 cols, .slice a n p, .int .i64 top, .int .i64 bot] :: H) w' := by
  have hfd := fld81
  have HX := Lib.hid hk
  clear hk
  go_enter Try.func22, Try.ntmps22
  go_wp2_with (first | (go_at_call 48; refine (sat48_no h HX.out (by (apply sk_from (hs := hs); repeat constructor))).mono ?_; clear hs; rintro e w ⟨rfl, hs⟩) | ((with_reducible refine isl ?_); first | ((with_reducible refine wrap hs ?_); clear hs; intro w hs) | ((with_reducible refine wrapn hs ?_); clear hs; intro w hs) | ((with_reducible refine wrapd hs ?_); clear hs; intro w hs)))
  go_ret
  exact ⟨rfl, hs⟩
theorem srow23 {ps : List PL} {i : Nat} {id : Int} {b2 : Nat} {l : List C} (hx : ps[i]? = some ⟨id, b2, l⟩) (hi : i < n) (hs : sat W (cel b 46 [.pointer (some ⟨s, 0, none⟩), .bool keeps, .int .i64 cols, .slice a n p, .int .i64 top, .int .i64 bot] :: own 81 2 (.slice a n p) n (lvs ps).flatten :: H) w) :
    Calls Try.prog 23 #[.pointer (some ⟨b, 0, none⟩), .int .i64 (i : Int)] w fun e w' => e = .returned (.pointer (some ⟨b2, 0, none⟩)) ∧ sat W (cel b 46 [.pointer (some ⟨s, 0, none⟩), .bool keeps, .int .i64 cols, .slice a n p, .int .i64 top, .int .i64 bot] :: own 81 2 (.slice a n p) n (lvs ps).flatten :: H) w' := by
  have hfd := fld81'
  have HX := Lib.hid hx
  clear hx
  go_enter Try.func23, Try.ntmps23
  go_wp2_with (first | (go_at_call 48; refine (sat48 HX.out hi (by (apply sk_from (hs := hs); repeat constructor))).mono ?_; clear hs; rintro e w ⟨rfl, hs⟩) | ((with_reducible refine isl ?_); first | ((with_reducible refine wrap hs ?_); clear hs; intro w hs) | ((with_reducible refine wrapn hs ?_); clear hs; intro w hs) | ((with_reducible refine wrapd hs ?_); clear hs; intro w hs)))
  go_ret
  exact ⟨rfl, hs⟩
theorem srow23_no {k : Int} (h : 0 < n) (hk : k < 0 ∨ (n : Int) ≤ k) (hs : sat W (cel b 46 [.pointer (some ⟨s, 0, none⟩), .bool keeps, .int .i64 cols, .slice a n p, .int .i64 top, .int .i64 bot] :: H) w) :
    Calls Try.prog 23 #[.pointer (some ⟨b, 0, none⟩), .int .i64 k] w fun e w' => e = .returned (.pointer none) ∧ sat W (cel b 46 [.pointer (some ⟨s, 0, none⟩), .bool keeps, .int .i64 cols, .slice a n p, .int .i64 top, .int .i64 bot] :: H) w' := by
  have hfd := fld81'
  have HX := Lib.hid hk
  clear hk
  go_enter Try.func23, Try.ntmps23
  go_wp2_with (first | (go_at_call 48; refine (sat48_no h HX.out (by (apply sk_from (hs := hs); repeat constructor))).mono ?_; clear hs; rintro e w ⟨rfl, hs⟩) | ((with_reducible refine isl ?_); first | ((with_reducible refine wrap hs ?_); clear hs; intro w hs) | ((with_reducible refine wrapn hs ?_); clear hs; intro w hs) | ((with_reducible refine wrapd hs ?_); clear hs; intro w hs)))
  go_ret
  exact ⟨rfl, hs⟩
theorem sfind24 {ps : List PL} {L : List LN} {id : Int} (h : 0 < n) (h5 : n ≤ 512) (HO : Hid (ps.map PL.ln = L ∧ ps.length = n)) (hs : sat W (cel b 46 [.pointer (some ⟨s, 0, none⟩), .bool keeps, .int .i64 cols, .slice a n p, .int .i64 top, .int .i64 bot] :: own 81 2 (.slice a n p) n (lvs ps).flatten :: H) w) :
    Calls Try.prog 24 #[.pointer (some ⟨b, 0, none⟩), .int .i64 id] w fun e w' => e = .returned (.int .i64 (ffst L id)) ∧ sat W (cel b 46 [.pointer (some ⟨s, 0, none⟩), .bool keeps, .int .i64 cols, .slice a n p, .int .i64 top, .int .i64 bot] :: own 81 2 (.slice a n p) n (lvs ps).flatten :: H) w' := by
  obtain ⟨g, rfl⟩ := own_ptr h hs.b1
  obtain ⟨F, hF⟩ : ∃ F, ffst L id = F := ⟨_, rfl⟩
  have HF := Lib.hid hF
  rw [HF.out]
  clear hF
  go_enter Try.func24, Try.ntmps24
  go_wp2_with (first | (go_at_call 20; refine (srows20 h (by (apply sk_from (hs := hs); repeat constructor))).mono ?_; clear hs; rintro e w ⟨rfl, hs⟩) | ((with_reducible refine isl ?_); first | ((with_reducible refine wrap hs ?_); clear hs; intro w hs) | ((with_reducible refine wrapn hs ?_); clear hs; intro w hs) | ((with_reducible refine wrapd hs ?_); clear hs; intro w hs)))
  go_loopw [8] (fun i wx => ∃ i0 : Nat, i0 ≤ n ∧ i = .int .i64 (i0 : Int) ∧ Hid (∀ (j : Nat) (y : LN), j < i0 → L[j]? = some y → y.1 ≠ id) ∧ sat W (cel b 46 [.pointer (some ⟨s, 0, none⟩), .bool keeps, .int .i64 cols, .slice (some ⟨g, 0, none⟩) n p, .int .i64 top, .int .i64 bot] :: own 81 2 (.slice (some ⟨g, 0, none⟩) n p) n (lvs ps).flatten :: H) wx) (fun i _ => ((n : Int) - intOf i).toNat)
  case atStart => exact ⟨0, Nat.zero_le _, rfl, Lib.hid (fun j y hj => absurd hj (by omega)), hs⟩
  case round =>
    clear hs
    obtain ⟨i0, hi, rfl, HJ, hs⟩ := hrel
    by_cases hin : i0 < n
    · have hin2 : (i0 : Int) < (n : Int) := by omega
      obtain ⟨⟨xid, xb, xl⟩, hx⟩ : ∃ x, ps[i0]? = some x := ⟨_, List.getElem?_eq_getElem (by rw [HO.out.2]; exact hin)⟩
      have hx2 : L[i0]? = some (xid, xl) := by rw [← HO.out.1, List.getElem?_map, hx]; rfl
      have HX0 := Lib.hid (lvs_at hx).1
      have HX2 := Lib.hid hx2
      clear hx hx2
      by_cases hq : xid = id
      · subst hq
        have HE := Lib.hid (ffst_hit HJ.out HX2.out rfl)
        go_wp2_with (first | ((with_reducible refine isl ?_); first | ((with_reducible apply ldo hs.b0); exact rfl; exact rfl; exact rfl; exact HX0.out; exact one3) | ((with_reducible apply ldo hs.b1); exact rfl; exact rfl; exact rfl; exact HX0.out; exact one3) | ((with_reducible apply ldo hs.b2); exact rfl; exact rfl; exact rfl; exact HX0.out; exact one3) | ((with_reducible apply ldo hs.b3); exact rfl; exact rfl; exact rfl; exact HX0.out; exact one3) | ((with_reducible apply ld hs.b0); exact rfl; exact rfl; exact rfl; exact rfl; kernel_rfl) | ((with_reducible apply ld hs.b1); exact rfl; exact rfl; exact rfl; exact rfl; kernel_rfl) | ((with_reducible apply st hs.b0); exact rfl; exact rfl; exact rfl; exact rfl; exact rfl; exact rfl; kernel_rfl; exact rfl; clear hs; intro w hs) | ((with_reducible apply st hs.b1); exact rfl; exact rfl; exact rfl; exact rfl; exact rfl; exact rfl; kernel_rfl; exact rfl; clear hs; intro w hs) | ((with_reducible apply stc hs.b0); exact rfl; exact rfl; exact rfl; exact rfl; exact rfl; kernel_rfl; exact rfl; clear hs; intro w hs) | ((with_reducible apply stc hs.b1); exact rfl; exact rfl; exact rfl; exact rfl; exact rfl; kernel_rfl; exact rfl; clear hs; intro w hs) | ((with_reducible refine wrap hs ?_); clear hs; intro w hs) | ((with_reducible refine wrapn hs ?_); clear hs; intro w hs) | ((with_reducible refine wrapd hs ?_); clear hs; intro w hs)))
        go_ret
        exact ⟨by rw [← HF.out, HE.out]; rfl, by refine sb_from ?_ hs; repeat constructor⟩
      · go_wp2_with (first | ((with_reducible refine isl ?_); first | ((with_reducible apply ldo hs.b0); exact rfl; exact rfl; exact rfl; exact HX0.out; exact one3) | ((with_reducible apply ldo hs.b1); exact rfl; exact rfl; exact rfl; exact HX0.out; exact one3) | ((with_reducible apply ldo hs.b2); exact rfl; exact rfl; exact rfl; exact HX0.out; exact one3) | ((with_reducible apply ldo hs.b3); exact rfl; exact rfl; exact rfl; exact HX0.out; exact one3) | ((with_reducible apply ld hs.b0); exact rfl; exact rfl; exact rfl; exact rfl; kernel_rfl) | ((with_reducible apply ld hs.b1); exact rfl; exact rfl; exact rfl; exact rfl; kernel_rfl) | ((with_reducible apply st hs.b0); exact rfl; exact rfl; exact rfl; exact rfl; exact rfl; exact rfl; kernel_rfl; exact rfl; clear hs; intro w hs) | ((with_reducible apply st hs.b1); exact rfl; exact rfl; exact rfl; exact rfl; exact rfl; exact rfl; kernel_rfl; exact rfl; clear hs; intro w hs) | ((with_reducible apply stc hs.b0); exact rfl; exact rfl; exact rfl; exact rfl; exact rfl; kernel_rfl; exact rfl; clear hs; intro w hs) | ((with_reducible apply stc hs.b1); exact rfl; exact rfl; exact rfl; exact rfl; exact rfl; kernel_rfl; exact rfl; clear hs; intro w hs) | ((with_reducible refine wrap hs ?_); clear hs; intro w hs) | ((with_reducible refine wrapn hs ?_); clear hs; intro w hs) | ((with_reducible refine wrapd hs ?_); clear hs; intro w hs)))
        go_roundw
        case rel => exact ⟨i0 + 1, by omega, by go_num, Lib.hid (fun j y hj hy => by
          by_cases hji : j = i0
          · subst hji
            rw [HX2.out] at hy
            cases hy
            exact hq
          · exact HJ.out j y (by omega) hy), by refine sb_from ?_ hs; repeat constructor⟩
        case measure => simp [intOf]; omega
    · have hge : ¬ (i0 : Int) < (n : Int) := by omega
      obtain rfl : i0 = n := by omega
      have HE : Hid (F = -1) := Lib.hid (by
        rw [← HF.out]
        refine ffst_none fun j y hy => HJ.out j y ?_ hy
        have h1 := (List.getElem?_eq_some_iff.1 hy).1
        rw [← HO.out.1, List.length_map, HO.out.2] at h1
        exact h1)
      clear hin
      go_wp2_with (first | ((with_reducible refine isl ?_); first | ((with_reducible refine wrap hs ?_); clear hs; intro w hs) | ((with_reducible refine wrapn hs ?_); clear hs; intro w hs) | ((with_reducible refine wrapd hs ?_); clear hs; intro w hs)))
      go_ret
      exact ⟨by rw [HE.out]; rfl, hs⟩
end
end Go.Proofs.Ytdcagaaanbgcoaa
