/- Law 6: rows in memory; the small functions. -/
import Derived.Test.YtdcagaaanbgcoaaSf
import Derived.Test.YtdcagaaanbgcoaaProg
import Derived.Test.YtdcagaaanbgcoaaV1
import Derived.Test.YtdcagaaanbgcoaaSw
import Derived.Test.YtdcagaaanbgcoaaSu
import Derived.Test.YtdcagaaanbgcoaaSq
import Derived.Test.YtdcagaaanbgcoaaSy
import Derived.Test.YtdcagaaanbgcoaaSv
import Derived.Test.YtdcagaaanbgcoaaSp
import Derived.Test.YtdcagaaanbgcoaaSo
import Derived.Test.YtdcagaaanbgcoaaSi
import Derived.Deep.Cut
import Derived.Deep.CutRange
import Derived.Deep.DeepCutAuto
namespace Go.Proofs.Ytdcagaaanbgcoaa
open Go.RowKit Go.Mem Go.Cells
variable {W w : World} {H : List HProp}
def runes (l : List Int) : List Value := l.map (Value.int .i32)
theorem runes_len (l : List Int) : (runes l).length = l.length := List.length_map _
theorem runes_snoc (l : List Int) (r : Int) : runes l ++ [.int .i32 r] = runes (l ++ [r]) := by simp [runes]
theorem runes_ok {l : List Int} : ∀ u ∈ runes l, u.oneCell' = true := by unfold runes; exact ints_ok
abbrev aC (a : At) : List Value := [.int .u32 a.fg, .int .u32 a.bg, .int .u16 a.fl]
abbrev aV (a : At) : Value := .agg #[.int .u32 a.fg, .int .u32 a.bg, .int .u16 a.fl]
abbrev cV (c : C) (v : Value) : List Value := [.int .i32 c.r, v, .int .u8 c.w, .int .u32 c.a.fg, .int .u32 c.a.bg, .int .u16 c.a.fl]
abbrev cA (c : C) (v : Value) : Value := .agg #[.int .i32 c.r, v, .int .u8 c.w, .int .u32 c.a.fg, .int .u32 c.a.bg, .int .u16 c.a.fl]
/-- A cell, and where its marks lie. -/
structure PC where
  c : C
  a : Option Addr
  p : Nat
def PC.bl (a : At) : PC := ⟨bC a, none, 0⟩
abbrev pcS (x : PC) : Value := .slice x.a x.c.comb.length x.p
abbrev pcV (x : PC) : List Value := cV x.c (pcS x)
def cmb1 (x : PC) : HProp := own 21 1 (pcS x) x.c.comb.length (runes x.c.comb)
def cmb : List PC → HProp
  | [] => fun _ => True
  | x :: l => star (cmb1 x) (cmb l)
def rws (ps : List PC) : List (List Value) := ps.map pcV
theorem rws6 (ps : List PC) : All6 6 (rws ps) := fun r hr => by
  obtain ⟨x, _, rfl⟩ := List.mem_map.1 hr
  rfl
theorem rws_get {ps : List PC} {i : Nat} {x : PC} (h : ps[i]? = some x) : (rws ps)[i]? = some (pcV x) := by
  unfold rws
  rw [List.getElem?_map, h]
  rfl
theorem rws_len (ps : List PC) : (rws ps).length = ps.length := List.length_map _
theorem rws_set (ps : List PC) (i : Nat) (x : PC) : (rws ps).set i (pcV x) = rws (ps.set i x) := by unfold rws; rw [List.map_set]
theorem rws_app (ps qs : List PC) : rws (ps ++ qs) = rws ps ++ rws qs := List.map_append
theorem flat_one {ps : List PC} : ∀ u ∈ (rws ps).flatten, u.oneCell' = true := fun u hu => by
  obtain ⟨r, hr, hu⟩ := List.mem_flatten.1 hu
  obtain ⟨x, _, rfl⟩ := List.mem_map.1 hr
  simp only [List.mem_cons, List.not_mem_nil, or_false] at hu
  rcases hu with rfl | rfl | rfl | rfl | rfl | rfl <;> rfl
/-- Cells in a slice of one's own. -/
def cls (v : Value) (l : List C) : HProp := fun h => ∃ ps : List PC, ps.map (·.c) = l ∧ star (own 110 6 v l.length (rws ps).flatten) (cmb ps) h
def rwP (T b : Nat) (l : List C) : HProp := fun h => ∃ a p, star (cel b T [.slice a l.length p]) (cls (.slice a l.length p) l) h
theorem sat_tt (hs : sat W H w) : sat W ((fun _ => True) :: H) w := ⟨hs.1, hs.2.1, hs.2.2.1, fun _ => none, _, fun _ => .inl rfl, fun _ _ e => by simp at e, Hp.sub_refl _, trivial, hs.2.2.2⟩
theorem cmb_nil (hs : sat W H w) : sat W (cmb [] :: H) w := sat_tt hs
theorem cmb_cons {x : PC} {l : List PC} (hs : sat W (cmb (x :: l) :: H) w) : sat W (cmb1 x :: cmb l :: H) w := sat.unstar (A := cmb1 x) (B := cmb l) hs
theorem cmb_mk {x : PC} {l : List PC} (hs : sat W (cmb1 x :: cmb l :: H) w) : sat W (cmb (x :: l) :: H) w := sat.star (A := cmb1 x) (B := cmb l) hs
theorem cmb_app : ∀ {l m : List PC} {H : List HProp}, sat W (cmb l :: cmb m :: H) w → sat W (cmb (l ++ m) :: H) w
  | [], _, _, hs => hs.drop
  | x :: l, m, H, hs => by
    have h1 := cmb_cons hs
    exact cmb_mk (cmb_app h1.b1.b2.b1).b1
theorem cmb_split : ∀ {l m : List PC} {H : List HProp}, sat W (cmb (l ++ m) :: H) w → sat W (cmb l :: cmb m :: H) w
  | [], _, _, hs => cmb_nil hs
  | x :: l, m, H, hs => by
    have h1 := cmb_cons hs
    have h2 : sat W (cmb l :: cmb m :: cmb1 x :: H) w := cmb_split h1.b1
    have h3 : sat W (cmb1 x :: cmb l :: cmb m :: H) w := by refine sb_from ?_ h2; repeat constructor
    exact cmb_mk h3
theorem cmb_bl {a : At} {l : List PC} (hs : sat W (cmb l :: H) w) : sat W (cmb (PC.bl a :: l) :: H) w := cmb_mk (hs.own_nil 21 1)
theorem cmb_bls {a : At} {l : List PC} : ∀ (n : Nat), sat W (cmb l :: H) w → sat W (cmb (List.replicate n (PC.bl a) ++ l) :: H) w
  | 0, hs => hs
  | n + 1, hs => by rw [List.replicate_succ]; exact cmb_bl (cmb_bls n hs)
theorem cmb_take {l : List PC} (k : Nat) (hs : sat W (cmb l :: H) w) : sat W (cmb (l.take k) :: H) w := by
  rw [← List.take_append_drop k l] at hs
  exact (cmb_split hs).b1.drop
theorem cmb_drop {l : List PC} (k : Nat) (hs : sat W (cmb l :: H) w) : sat W (cmb (l.drop k) :: H) w := by
  rw [← List.take_append_drop k l] at hs
  exact (cmb_split hs).drop
/-- One cell is put in another's place, with marks of its own. -/
theorem cmb_at {l : List PC} {i : Nat} {x : PC} (h : l[i]? = some x) (hs : sat W (cmb l :: H) w) : sat W (cmb1 x :: cmb (l.take i) :: cmb (l.drop (i + 1)) :: H) w := by
  have hlt : i < l.length := (List.getElem?_eq_some_iff.1 h).1
  have e : l.drop i = x :: l.drop (i + 1) := by
    rw [List.drop_eq_getElem_cons hlt]
    congr 1
    rw [List.getElem?_eq_getElem hlt] at h
    exact Option.some.inj h
  rw [← List.take_append_drop i l, e] at hs
  have h1 := cmb_split hs
  have h2 := cmb_cons h1.b1
  refine sb_from ?_ h2; repeat constructor
theorem cmb_put {l : List PC} {i : Nat} {y : PC} (h : i < l.length) (hs : sat W (cmb1 y :: cmb (l.take i) :: cmb (l.drop (i + 1)) :: H) w) : sat W (cmb (l.set i y) :: H) w := by
  rw [List.set_eq_take_append_cons_drop, if_pos h]
  have h1 : sat W (cmb1 y :: cmb (l.drop (i + 1)) :: cmb (l.take i) :: H) w := by refine sb_from ?_ hs; repeat constructor
  exact cmb_app (cmb_mk h1).b1
theorem cmb_set {l : List PC} {i : Nat} {a : At} (hs : sat W (cmb l :: H) w) : sat W (cmb (l.set i (PC.bl a)) :: H) w := by
  by_cases h : i < l.length
  · have h1 := cmb_at (x := l[i]) (List.getElem?_eq_getElem h) hs
    exact cmb_put h (h1.drop.own_nil 21 1)
  · rw [List.set_eq_of_length_le (by omega)]
    exact hs
theorem cls_open {v : Value} {n : Nat} {l : List C} (hn : l.length = n) (hs : sat W (cls v l :: H) w) : ∃ ps : List PC, ps.map (·.c) = l ∧ sat W (own 110 6 v n (rws ps).flatten :: cmb ps :: H) w := by
  subst hn
  obtain ⟨ps, hs⟩ := hs.ex
  obtain ⟨e, hs⟩ := hs.and_pure
  exact ⟨ps, e, hs.unstar⟩
theorem cls_close {v : Value} {n : Nat} {ps : List PC} (hn : ps.length = n) (hs : sat W (own 110 6 v n (rws ps).flatten :: cmb ps :: H) w) : sat W (cls v (ps.map (·.c)) :: H) w := by
  subst hn
  exact hs.star.imp fun _ h => ⟨ps, rfl, by rw [List.length_map]; exact h⟩
theorem rw_open {T b n : Nat} {l : List C} (hn : l.length = n) (hs : sat W (rwP T b l :: H) w) : ∃ (ps : List PC) (a : Option Addr) (p : Nat), ps.map (·.c) = l ∧ sat W (cel b T [.slice a n p] :: own 110 6 (.slice a n p) n (rws ps).flatten :: cmb ps :: H) w := by
  subst hn
  obtain ⟨a, hs⟩ := hs.ex
  obtain ⟨p, hs⟩ := hs.ex
  obtain ⟨ps, e, h1⟩ := cls_open rfl hs.unstar.b1
  exact ⟨ps, a, p, e, by refine sb_from ?_ h1; repeat constructor⟩
theorem rw_close {T b n p : Nat} {a : Option Addr} {ps : List PC} (hn : ps.length = n) (hs : sat W (cel b T [.slice a n p] :: own 110 6 (.slice a n p) n (rws ps).flatten :: cmb ps :: H) w) : sat W (rwP T b (ps.map (·.c)) :: H) w := by
  have h1 := (cls_close hn hs.b1.b2.b1).b1
  subst hn
  exact h1.star.imp fun _ h => ⟨a, p, by rw [List.length_map]; exact h⟩
theorem own_ptr {T size n p : Nat} {a : Option Addr} {xs : List Value} (h0 : 0 < n) (hs : sat W (own T size (.slice a n p) n xs :: H) w) : ∃ g, a = some ⟨g, 0, none⟩ := by
  rcases hs.own_cases.2 with ⟨_, h, _⟩ | ⟨g, _, _, e, _⟩
  · omega
  · cases e; exact ⟨g, rfl⟩
theorem row33 : rowTy Try.prog 25 3 = true := by kernel_rfl
theorem row41 : rowTy Try.prog 110 6 = true := by kernel_rfl
theorem one5 : oneTy Try.prog 5 = true := by kernel_rfl
theorem one21 : oneTy Try.prog 21 = true := by kernel_rfl
theorem one37 : oneTy Try.prog 94 = true := by kernel_rfl
theorem one39 : oneTy Try.prog 108 = true := by kernel_rfl
theorem slty37 : SlTy Try.prog 94 110 6 48 := ⟨Try.underlying94, by obtain ⟨i0, hi, hz0, hz1, hz2⟩ := info_parts (show (Try.prog.info? 110).map (fun i => (i.zero, i.size, i.bytes)) = some (some (.agg #[.int .i32 0, .slice none 0 0, .int .u8 0, .int .u32 0, .int .u32 0, .int .u16 0]), 6, 48) by kernel_rfl); exact ⟨i0, _, hi, hz0, hz1, hz2, rfl⟩, by decide⟩
theorem slty39 : SlTy Try.prog 108 21 1 4 := ⟨Try.underlying108, by obtain ⟨i0, hi, hz0, hz1, hz2⟩ := info_parts (show (Try.prog.info? 21).map (fun i => (i.zero, i.size, i.bytes)) = some (some (.int .i32 0), 1, 4) by kernel_rfl); exact ⟨i0, _, hi, hz0, hz1, hz2, rfl⟩, by decide⟩
attribute [local irreducible] rowTy oneTy World.setCell World.setCells World.alloc World.drew World.drewN Calls sat cel own blk old wpQuiet wpList cmb cmb1 rwP cls rws
/-! ## Small functions -/
theorem ready40 {b n : Nat} {l : List C} (hn : l.length = n) (h0 : 0 < n) (hs : sat W (rwP 96 b l :: H) w) : Calls Try.prog 58 #[.pointer (some ⟨b, 0, none⟩)] w fun e w' => e = .returned (.bool true) ∧ sat W (rwP 96 b l :: H) w' := by
  obtain ⟨ps, a, p, hps, hs⟩ := rw_open hn hs
  have HN : Hid (ps.length = n ∧ ps.map (·.c) = l) := Lib.hid ⟨by rw [← hn, ← hps, List.length_map], hps⟩
  have h1 : (0 : Int) < (n : Int) := by omega
  clear hn hps
  go_enter Try.func58, Try.ntmps58
  go_wp2_with (((with_reducible refine isl ?_); first | ((with_reducible apply ldx); exact rfl; exact rfl; exact rfl; exact hs.b0; exact rfl; kernel_rfl)))
  go_ret
  exact ⟨rfl, by rw [← HN.out.2]; exact rw_close HN.out.1 hs⟩
theorem ready40_nil (hs : sat W H w) : Calls Try.prog 58 #[.pointer none] w fun e w' => e = .returned (.bool false) ∧ sat W H w' := by
  go_enter Try.func58, Try.ntmps58
  go_wp2_with (fail)
  go_ret
  exact ⟨rfl, hs⟩
theorem ready40_zero {b : Nat} (hs : sat W (cel b 96 [.slice none 0 0] :: H) w) : Calls Try.prog 58 #[.pointer (some ⟨b, 0, none⟩)] w fun e w' => e = .returned (.bool false) ∧ sat W (cel b 96 [.slice none 0 0] :: H) w' := by
  go_enter Try.func58, Try.ntmps58
  go_wp2_with (((with_reducible refine isl ?_); first | ((with_reducible apply ldx); exact rfl; exact rfl; exact rfl; exact hs.b0; exact rfl; kernel_rfl)))
  go_ret
  exact ⟨rfl, hs⟩
theorem len27 {b n : Nat} {l : List C} (hn : l.length = n) (h0 : 0 < n) (hs : sat W (rwP 96 b l :: H) w) : Calls Try.prog 30 #[.pointer (some ⟨b, 0, none⟩)] w fun e w' => e = .returned (.int .i64 n) ∧ sat W (rwP 96 b l :: H) w' := by
  have HN0 := Lib.hid hn
  clear hn
  go_enter Try.func30, Try.ntmps30
  go_wp2_with (first | (go_at_call 58; refine (ready40 HN0.out h0 hs).mono ?_; clear hs; rintro e w ⟨rfl, hs⟩; obtain ⟨ps, a, p, hps, hs⟩ := rw_open HN0.out hs; have HN : Hid (ps.length = n ∧ ps.map (·.c) = l) := Lib.hid ⟨by rw [← HN0.out, ← hps, List.length_map], hps⟩; clear hps) | ((with_reducible refine isl ?_); first | ((with_reducible apply ldx); exact rfl; exact rfl; exact rfl; exact hs.b0; exact rfl; kernel_rfl)))
  go_ret
  exact ⟨rfl, by rw [← HN.out.2]; exact rw_close HN.out.1 hs⟩
theorem held41 {b n : Nat} {l : List C} {i : Int} (hn : l.length = n) (hs : sat W (rwP 96 b l :: H) w) : Calls Try.prog 90 #[.pointer (some ⟨b, 0, none⟩), .int .i64 i] w fun e w' => e = .returned (.int .i64 (min (max i 0) n)) ∧ sat W (rwP 96 b l :: H) w' := by
  obtain ⟨ps, a, p, hps, hs⟩ := rw_open hn hs
  have HN : Hid (ps.length = n ∧ ps.map (·.c) = l) := Lib.hid ⟨by rw [← hn, ← hps, List.length_map], hps⟩
  clear hn hps
  go_enter Try.func90, Try.ntmps90
  go_wp2_with (((with_reducible refine isl ?_); first | ((with_reducible apply ldx); exact rfl; exact rfl; exact rfl; exact hs.b0; exact rfl; kernel_rfl)))
  all_goals
    go_ret
    exact ⟨ret_int (by omega), by rw [← HN.out.2]; exact rw_close HN.out.1 hs⟩
theorem blank30 {a : At} (hs : sat W H w) : Calls Try.prog 67 #[aV a] w fun e w' => e = .returned (cA (bC a) (.slice none 0 0)) ∧ sat W H w' := by
  go_enter Try.func67, Try.ntmps67
  go_wp2_with (((with_reducible refine isl ?_); first | ((with_reducible apply ldswx); exact rfl; exact rfl; exact rfl; (exact hs.b1); exact row33) | ((with_reducible apply stswx); exact rfl; exact rfl; exact rfl; exact hs.b0; exact rfl; exact row41; exact rfl; exact rfl; exact rfl; clear hs; intro w hs) | ((with_reducible refine wrap hs ?_); clear hs; (first | (have _t := z4; clear _t; generalize w.heap.size = z5) | generalize w.heap.size = z4); intro w hs)))
  (refine ret_cell hs.b0 rfl rfl rfl row41 ?_)
  exact ⟨rfl, hs.dropN 2⟩
theorem ground43 {a : At} (hs : sat W H w) : Calls Try.prog 91 #[aV a] w fun e w' => e = .returned (aV (grC a)) ∧ sat W H w' := by
  go_enter Try.func91, Try.ntmps91
  go_wp2_with (((with_reducible refine isl ?_); first | ((with_reducible apply stswx); exact rfl; exact rfl; exact rfl; (exact hs.b0); exact rfl; exact row33; exact rfl; exact rfl; exact rfl; clear hs; intro w hs) | ((with_reducible apply ldx); exact rfl; exact rfl; exact rfl; (exact hs.b1); exact rfl; kernel_rfl) | ((with_reducible refine wrap hs ?_); clear hs; (first | (have _t := z4; clear _t; generalize w.heap.size = z5) | generalize w.heap.size = z4); intro w hs)))
  (refine ret_cell hs.b0 rfl rfl rfl row33 ?_)
  exact ⟨rfl, hs.dropN 2⟩
theorem clear17 {a : At} (hs : sat W H w) : Calls Try.prog 93 #[aV a] w fun e w' => e = .returned (cA (bC (grC a)) (.slice none 0 0)) ∧ sat W H w' := by
  go_enter Try.func93, Try.ntmps93
  go_wp2_with (((with_reducible refine isl ?_); first | ((with_reducible apply stswx); exact rfl; exact rfl; exact rfl; (exact hs.b0); exact rfl; exact row41; exact rfl; exact rfl; exact rfl; clear hs; intro w hs) | ((with_reducible apply ldx); exact rfl; exact rfl; exact rfl; (exact hs.b1); exact rfl; kernel_rfl) | ((with_reducible refine wrap hs ?_); clear hs; (first | (have _t := z4; clear _t; generalize w.heap.size = z5) | generalize w.heap.size = z4); intro w hs)))
  (refine ret_cell hs.b0 rfl rfl rfl row41 ?_)
  exact ⟨rfl, hs.dropN 2⟩
theorem mayPut48 {x : Int} (hs : sat W H w) : Calls Try.prog 74 #[.int .i32 x] w fun e w' => e = .returned (.bool (decide (mayC x))) ∧ sat W H w' := by
  go_enter Try.func74, Try.ntmps74
  go_wp2_with fail
  all_goals
    go_ret
    refine ⟨ret_bool ?_, hs⟩
    rw [Bool.eq_iff_iff, @decide_eq_true_eq (mayC x)]
    unfold mayC
    first | (simp; omega)
theorem rune12 {x : Int} (hs : sat W H w) : Calls Try.prog 76 #[.int .i32 x] w fun e w' => e = .returned (.bool (decide (mayC x))) ∧ sat W H w' := by
  go_enter Try.func76, Try.ntmps76
  go_wp2_with fail
  all_goals
    go_ret
    refine ⟨ret_bool ?_, hs⟩
    rw [Bool.eq_iff_iff, @decide_eq_true_eq (mayC x)]
    unfold mayC
    first | (simp; omega)
theorem mayCols28 {x : Int} (hs : sat W H w) : Calls Try.prog 66 #[.int .i64 x] w fun e w' => e = .returned (.bool (decide (1 ≤ x ∧ x ≤ 512))) ∧ sat W H w' := by
  go_enter Try.func66, Try.ntmps66
  go_wp2_with fail
  all_goals
    go_ret
    refine ⟨ret_bool ?_, hs⟩
    rw [Bool.eq_iff_iff]
    first | (simp; omega)
theorem may19 {x : Int} (hs : sat W H w) : Calls Try.prog 33 #[.int .i64 x] w fun e w' => e = .returned (.bool (decide (1 ≤ x ∧ x ≤ 512))) ∧ sat W H w' := by
  go_enter Try.func33, Try.ntmps33
  go_wp2_with fail
  all_goals
    go_ret
    refine ⟨ret_bool ?_, hs⟩
    rw [Bool.eq_iff_iff]
    first | (simp; omega)
theorem held54 {i m : Int} (hm : 0 ≤ m) (hs : sat W H w) : Calls Try.prog 92 #[.int .i64 i, .int .i64 m] w fun e w' => e = .returned (.int .i64 (min (max i 0) m)) ∧ sat W H w' := by
  go_enter Try.func92, Try.ntmps92
  go_wp2_with fail
  all_goals
    go_ret
    exact ⟨ret_int (by omega), hs⟩
theorem clone55 {a : Option Addr} {n c : Nat} {l : List Int} (hl : l.length = n) (hn : n ≤ 2000) (hs : sat W (own 21 1 (.slice a n c) n (runes l) :: H) w) :
    Calls Try.prog 88 #[.slice a n c] w fun e w' => ∃ a' c', e = .returned (.slice a' n c') ∧ sat W (own 21 1 (.slice a' n c') n (runes l) :: own 21 1 (.slice a n c) n (runes l) :: H) w' := by
  have HL : Hid ((runes l).length = n) := Lib.hid (by rw [runes_len, hl])
  have HR : Hid (∀ u ∈ runes l, u.oneCell' = true) := Lib.hid runes_ok
  rcases hs.own_cases.2 with ⟨e, rfl, h2⟩ | ⟨g, cap, cur, e, _⟩
  · cases e
    clear hl
    have hnil := Go.Lib.run_eql_slice_nil (P := Try.prog) w 108 21 none 0 0 0 0 Try.underlying108
    go_enter Try.func88, Try.ntmps88
    go_wp2_with fail
    go_ret
    refine ⟨none, 0, rfl, ?_⟩
    rw [h2] at hs ⊢
    exact hs.own_nil 21 1
  · cases e
    clear hl
    have hnil := Go.Lib.run_eql_slice_nil (P := Try.prog) w 108 21 (some ⟨g, 0, none⟩) n c 0 0 Try.underlying108
    go_enter Try.func88, Try.ntmps88
    go_wp2_with (((with_reducible refine isl ?_); first | ((with_reducible apply appf hs); exact rfl; exact rfl; exact rfl; exact rfl; exact slty39; exact hs.b1.own_reads.1; exact HR.out; exact HL.out; omega; clear hs; intro a5 c5 w hs) | ((with_reducible refine wrap hs ?_); clear hs; intro w hs)))
    go_ret
    exact ⟨_, _, rfl, hs⟩
/-- A cell's copy. -/
theorem copied39 {x : PC} (h4 : x.c.comb.length ≤ 4) (hs : sat W (cmb1 x :: H) w) : Calls Try.prog 79 #[cA x.c (pcS x)] w fun e w' => ∃ y : PC, e = .returned (cA x.c (pcS y)) ∧ y.c = x.c ∧ sat W (cmb1 y :: cmb1 x :: H) w' := by
  obtain ⟨c, a, p⟩ := x
  obtain ⟨n, hn⟩ : ∃ n, c.comb.length = n := ⟨_, rfl⟩
  simp only at h4
  unfold cmb1 at hs
  simp only [pcS, hn] at hs h4 ⊢
  have HN := Lib.hid hn
  clear hn
  go_enter Try.func79, Try.ntmps79
  go_wp2_with (first | (go_at_call 88; refine (clone55 HN.out (by omega) (by apply sk_from (hs := hs); repeat constructor)).mono ?_; clear hs; rintro e w ⟨a5, c5, rfl, hs⟩) | ((with_reducible refine isl ?_); first | ((with_reducible apply ldswx); exact rfl; exact rfl; exact rfl; exact hs.b0; exact row41) | ((with_reducible apply stswx); exact rfl; exact rfl; exact rfl; exact hs.b3; exact rfl; exact row41; exact rfl; exact rfl; exact rfl; clear hs; intro w hs) | ((with_reducible apply ldx); exact rfl; exact rfl; exact rfl; (exact hs.b1); exact rfl; kernel_rfl) | ((with_reducible apply stx); exact rfl; exact rfl; exact rfl; (exact hs.b3); exact rfl; exact rfl; exact rfl; kernel_rfl; exact rfl; clear hs; intro w hs) | ((with_reducible refine wrap hs ?_); clear hs; (first | (have _t := z4; clear _t; generalize w.heap.size = z5) | generalize w.heap.size = z4); intro w hs)))
  (refine ret_cell hs.b0 rfl rfl rfl row41 ?_)
  refine ⟨⟨c, a5, c5⟩, by simp only [HN.out]; rfl, rfl, ?_⟩
  unfold cmb1
  simp only [pcS, HN.out]
  (refine sb_from ?_ hs; repeat constructor)
/-- .. by the document. -/
theorem own53 {x : PC} (h4 : x.c.comb.length ≤ 4) (hs : sat W (cmb1 x :: H) w) : Calls Try.prog 94 #[cA x.c (pcS x)] w fun e w' => ∃ y : PC, e = .returned (cA x.c (pcS y)) ∧ y.c = x.c ∧ sat W (cmb1 y :: cmb1 x :: H) w' := by
  obtain ⟨c, a, p⟩ := x
  obtain ⟨n, hn⟩ : ∃ n, c.comb.length = n := ⟨_, rfl⟩
  simp only at h4
  unfold cmb1 at hs
  simp only [pcS, hn] at hs h4 ⊢
  have HN := Lib.hid hn
  have HL : Hid ((runes c.comb).length = n) := Lib.hid (by rw [runes_len, hn])
  have HR : Hid (∀ u ∈ runes c.comb, u.oneCell' = true) := Lib.hid runes_ok
  clear hn
  go_enter Try.func94, Try.ntmps94
  go_wp2_with (first | (((with_reducible apply appf hs.b0); exact rfl; exact rfl; exact rfl; exact rfl; exact slty39; (exact hs.b3.own_reads.1); exact HR.out; exact HL.out; omega; clear hs; intro a5 c5 w hs)) | ((with_reducible refine isl ?_); first | ((with_reducible apply ldswx); exact rfl; exact rfl; exact rfl; exact hs.b0; exact row41) | ((with_reducible apply stswx); exact rfl; exact rfl; exact rfl; exact hs.b2; exact rfl; exact row41; exact rfl; exact rfl; exact rfl; clear hs; intro w hs) | ((with_reducible apply ldx); exact rfl; exact rfl; exact rfl; (exact hs.b2); exact rfl; kernel_rfl) | ((with_reducible apply stx); exact rfl; exact rfl; exact rfl; (exact hs.b2); exact rfl; exact rfl; exact rfl; kernel_rfl; exact rfl; clear hs; intro w hs) | ((with_reducible refine wrap hs ?_); clear hs; (first | (have _t := z4; clear _t; generalize w.heap.size = z5) | generalize w.heap.size = z4); intro w hs)))
  (refine ret_cell hs.b0 rfl rfl rfl row41 ?_)
  refine ⟨⟨c, a5, c5⟩, by simp only [HN.out]; rfl, rfl, ?_⟩
  unfold cmb1
  simp only [pcS, HN.out]
  (refine sb_from ?_ hs; repeat constructor)
/-- Is a cell blank? -/
def isB (c : C) : Prop := c.r = 32 ∧ c.comb = [] ∧ c.w = 0
instance (c : C) : Decidable (isB c) := inferInstanceAs (Decidable (_ ∧ _ ∧ _))
theorem isB_len {c : C} {n : Nat} (hn : c.comb.length = n) : decide (isB c) = decide (c.r = 32 ∧ n = 0 ∧ c.w = 0) := by
  have h : c.comb = [] ↔ n = 0 := by rw [← hn, List.length_eq_zero_iff]
  exact decide_eq_decide.2 (by unfold isB; rw [h])
end Go.Proofs.Ytdcagaaanbgcoaa
namespace Go.Proofs.Ytdcagaaanbgcoaa
open Go.RowKit Go.Mem Go.Cells
variable {W w : World} {H : List HProp}
theorem ldpsq {X : Type} {f : X → World} {P : Program} {o : Oper} {ops : Array Oper} {rest : List Oper} {a : Act} {Q : Act → Prop} {b i : Nat} {F : List (Nat × Value)} {ty : TypeId} {cs : List Value} {x : Operand} (hf : ∀ x, sat W (pf b F :: H) (f x)) (ho : o.op = .load ty x) (hw : Region.wanted o (yielded ops a.tmps) = true) (hx : a.eval x = .pointer (some ⟨b, i, none⟩))
    (hm : ∀ j v, cs[j]? = some v → (i + j, v) ∈ F) (ht : rowTy P ty cs.length = true) (h : wpQuiet P ops (fun w' => ∃ x : X, w' = f x) Q rest (a.put o.dst (.agg cs.toArray))) : wpQuiet P ops (fun w' => ∃ x : X, w' = f x) Q (o :: rest) a :=
  ldscq ho hw hx (fun x j v hj => (hf x).pf_cell (hm j v hj)) ht h
theorem pf_rows {b g n p : Nat} {F : List (Nat × Value)} {xs : List Value} (hF : ∀ q ∈ F, xs[q.1]? = some q.2) (hs : sat W [cel b 96 [.slice (some ⟨g, 0, none⟩) n p], own 110 6 (.slice (some ⟨g, 0, none⟩) n p) n xs] w) : sat W [cel b 96 [.slice (some ⟨g, 0, none⟩) n p], pf g F] w := by
  have h1 := hs.b1
  rcases h1.own_cases.2 with ⟨e, _⟩ | ⟨g', cap, cur, e, _, _, _, ht, hb⟩
  · cases e
  · cases e
    refine (hb.imp (B := pf g F) fun h k => ⟨cur, 110, k, fun q hq => ?_⟩).b1
    have h2 := hF q hq
    rw [← ht, List.getElem?_take] at h2
    split at h2
    · simpa using h2
    · cases h2
def attF (i : Nat) (a : At) : List (Nat × Value) := [(i * 6 + 3, .int .u32 a.fg), (i * 6 + 4, .int .u32 a.bg), (i * 6 + 5, .int .u16 a.fl)]
theorem attF_rows {ps : List PC} {i : Nat} {x : PC} (h : ps[i]? = some x) : ∀ q ∈ attF i x.c.a, (rws ps).flatten[q.1]? = some q.2 := fun q hq => by
  unfold attF at hq
  simp only [List.mem_cons, List.not_mem_nil, or_false] at hq
  rcases hq with rfl | rfl | rfl
  · exact flat_at (k := 3) (rws6 ps) (rws_get h) rfl
  · exact flat_at (k := 4) (rws6 ps) (rws_get h) rfl
  · exact flat_at (k := 5) (rws6 ps) (rws_get h) rfl
theorem attF_mem {i : Nat} {a : At} : ∀ j v, (aC a)[j]? = some v → (i * 6 + 3 + j, v) ∈ attF i a := fun j v h => by
  match j with
  | 0 => cases h; exact List.mem_cons_self
  | 1 => cases h; exact List.mem_cons_of_mem _ List.mem_cons_self
  | 2 => cases h; exact List.mem_cons_of_mem _ (List.mem_cons_of_mem _ List.mem_cons_self)
  | j + 3 => simp at h
attribute [local irreducible] rowTy oneTy World.setCell World.setCells World.alloc World.drew World.drewN Calls sat cel own blk old wpQuiet wpList cmb cmb1 rwP cls rws
theorem part42_out {b n : Nat} {l : List C} {k : Int} (hn : l.length = n) (hk : ¬ (0 < k ∧ k < n)) (hs : sat W (rwP 96 b l :: H) w) : Calls Try.prog 75 #[.pointer (some ⟨b, 0, none⟩), .int .i64 k] w fun e w' => e = .returned (.tuple #[]) ∧ sat W (rwP 96 b l :: H) w' := by
  obtain ⟨ps, a, p, hps, hs⟩ := rw_open hn hs
  have HN : Hid (ps.length = n ∧ ps.map (·.c) = l) := Lib.hid ⟨by rw [← hn, ← hps, List.length_map], hps⟩
  clear hn hps
  by_cases h0 : 0 < k
  · have h1 : ¬ k < (n : Int) := by omega
    clear hk
    go_enter Try.func75, Try.ntmps75
    go_wp2_with (((with_reducible refine isl ?_); first | ((with_reducible apply ldx); exact rfl; exact rfl; exact rfl; exact hs.b0; exact rfl; kernel_rfl)))
    refine end_end0 rfl rfl ?_
    exact ⟨rfl, by rw [← HN.out.2]; exact rw_close HN.out.1 hs⟩
  · clear hk
    go_enter Try.func75, Try.ntmps75
    go_wp2_with (fail)
    refine end_end0 rfl rfl ?_
    exact ⟨rfl, by rw [← HN.out.2]; exact rw_close HN.out.1 hs⟩
theorem part42_in {b n j : Nat} {l : List C} (hn : l.length = n) (h0 : 0 < j) (h1 : j < n) (h512 : n ≤ 1000) (hs : sat W (rwP 96 b l :: H) w) : Calls Try.prog 75 #[.pointer (some ⟨b, 0, none⟩), .int .i64 (j : Int)] w fun e w' => e = .returned (.tuple #[]) ∧ sat W (rwP 96 b (partC l j) :: H) w' := by
  obtain ⟨ps, a, p, hps, hs⟩ := rw_open hn hs
  have hpn : ps.length = n := by rw [← hn, ← hps, List.length_map]
  obtain ⟨g, rfl⟩ := own_ptr (by omega) hs.b1
  obtain ⟨x, hx⟩ : ∃ x, ps[j]? = some x := ⟨_, List.getElem?_eq_getElem (by omega)⟩
  obtain ⟨y, hy⟩ : ∃ y, ps[j - 1]? = some y := ⟨_, List.getElem?_eq_getElem (by omega)⟩
  have HN : Hid (ps.length = n ∧ ps.map (·.c) = l) := Lib.hid ⟨hpn, hps⟩
  have hlx : l[j]? = some x.c := by rw [← hps, List.getElem?_map, hx]; rfl
  have hly : l[j - 1]? = some y.c := by rw [← hps, List.getElem?_map, hy]; rfl
  have hpart : partC l j = if x.c.w = 2 then (l.set (j - 1) (bC y.c.a)).set j (bC x.c.a) else l := by
    unfold partC
    rw [if_pos (by omega), show ((j : Int).toNat) = j from Int.toNat_natCast j, hlx, hly]
  have HX := Lib.hid (rws_get hx)
  have HY := Lib.hid (rws_get hy)
  have hsub : ((j : Int) - 1) = ((j - 1 : Nat) : Int) := by omega
  have g1 : (0 : Int) < (j : Int) := by omega
  have g2 : (j : Int) < (n : Int) := by omega
  by_cases hw : x.c.w = 2
  · have HP : Hid (partC l j = (l.set (j - 1) (bC y.c.a)).set j (bC x.c.a)) := Lib.hid (by rw [hpart, if_pos hw])
    have HS1 : Hid ((rws ps).set (j - 1) (cV (bC y.c.a) (.slice none 0 0)) = rws (ps.set (j - 1) (PC.bl y.c.a))) := Lib.hid (rws_set ps (j - 1) (PC.bl y.c.a))
    have HS2 : Hid ((rws (ps.set (j - 1) (PC.bl y.c.a))).set j (cV (bC x.c.a) (.slice none 0 0)) = rws ((ps.set (j - 1) (PC.bl y.c.a)).set j (PC.bl x.c.a))) := Lib.hid (rws_set (ps.set (j - 1) (PC.bl y.c.a)) j (PC.bl x.c.a))
    have HL1 : Hid (j - 1 < (rws ps).length) := Lib.hid (by rw [rws_len]; omega)
    have HL2 : Hid (j < (rws (ps.set (j - 1) (PC.bl y.c.a))).length) := Lib.hid (by rw [rws_len, List.length_set]; omega)
    obtain ⟨F, hF⟩ : ∃ F, attF (j - 1) y.c.a ++ attF j x.c.a = F := ⟨_, rfl⟩
    have HM1 : Hid (∀ k v, (aC y.c.a)[k]? = some v → ((j - 1) * 6 + 3 + k, v) ∈ F) := Lib.hid fun k v h => by rw [← hF]; exact List.mem_append_left _ (attF_mem k v h)
    have HM2 : Hid (∀ k v, (aC x.c.a)[k]? = some v → (j * 6 + 3 + k, v) ∈ F) := Lib.hid fun k v h => by rw [← hF]; exact List.mem_append_right _ (attF_mem k v h)
    have key : ∀ (qs : List PC) (x' y' : PC), qs[j - 1]? = some y' → qs[j]? = some x' → y'.c.a = y.c.a → x'.c.a = x.c.a → ∀ q ∈ F, (rws qs).flatten[q.1]? = some q.2 := fun qs x' y' h1 h2 e1 e2 q hq => by
      rw [← hF, ← e1, ← e2] at hq
      rcases List.mem_append.1 hq with h | h
      · exact attF_rows h1 q h
      · exact attF_rows h2 q h
    have HF0 : Hid (∀ q ∈ F, (rws ps).flatten[q.1]? = some q.2) := Lib.hid (key ps x y hy hx rfl rfl)
    have HF1 : Hid (∀ q ∈ F, (rws (ps.set (j - 1) (PC.bl y.c.a))).flatten[q.1]? = some q.2) := Lib.hid (key _ x (PC.bl y.c.a) (by rw [List.getElem?_set_self (by omega)]) (by rw [List.getElem?_set_ne (by omega)]; exact hx) rfl rfl)
    have HF2 : Hid (∀ q ∈ F, (rws ((ps.set (j - 1) (PC.bl y.c.a)).set j (PC.bl x.c.a))).flatten[q.1]? = some q.2) := Lib.hid (key _ (PC.bl x.c.a) (PC.bl y.c.a) (by rw [List.getElem?_set_ne (by omega), List.getElem?_set_self (by omega)]) (by rw [List.getElem?_set_self (by rw [List.length_set]; omega)]) rfl rfl)
    clear key hF hpart hn hps hpn hx hy hlx hly
    go_enter Try.func75, Try.ntmps75
    go_wp2_with (first | (((with_reducible apply ldof hs.b1); exact rfl; exact rfl; exact rfl; (exact HX.out); exact rws6 _; exact rfl; exact one5)) | ((with_reducible refine isl ?_); first | ((with_reducible apply ldx); exact rfl; exact rfl; exact rfl; exact hs.b0; exact rfl; kernel_rfl)))
    refine region_mix [([0, 1, 2, 3, 4, 5, 6, 7, 8, 9, 10, 11, 12, 13, 14, 15, 16, 17, 18, 19, 21, 22, 23, 24, 25, 26, 27, 28], [20]), ([], [29]), ([30], [31]), ([32], [33])] [] hs (fun _ h => by (show sat W [cel b 96 [.slice (some ⟨g, 0, none⟩) n p], pf g F] _; first | (refine pf_rows HF0.out ?_; refine sb_from ?_ h; (repeat constructor); done))) (by kernel_rfl) (by kernel_rfl) (fun _ _ _ _ _ h => h) ?_
    simp only [segs, nths, nth, List.append_nil, List.nil_append, List.cons_append, List.map_cons, List.map_nil]
    refine seg_reads (fun _ h => by (show sat W [cel b 96 [.slice (some ⟨g, 0, none⟩) n p], pf g F] _; first | (refine pf_rows HF0.out ?_; refine sb_from ?_ h; (repeat constructor); done))) ?_; intro X f hne hf hcl; (try simp only [Act.put, List.setIfInBounds_toArray, List.set_cons_succ, List.set_cons_zero]); (repeat ((first | (apply ldpsq (fun x => (hf x).b1); exact rfl; exact rfl; exact rfl; (first | exact HM1.out | exact HM2.out); exact row33) | ((with_reducible apply ldqx); exact rfl; exact rfl; exact rfl; exact fun x => (hf x).b0; exact rfl; kernel_rfl) | go_big_quiet_step (fail)); (try simp only [Act.put, List.setIfInBounds_toArray, List.set_cons_succ, List.set_cons_zero]))); refine wpQuiet_nil ?_; clear hcl hf hne hs f X; intro w hs
    go_wp2_with ((go_at_call 67; (refine (blank30 (a := y.c.a) hs).mono ?_); clear hs; rintro e w ⟨rfl, hs⟩))
    (refine seg_on hs (fun _ h => h) ?_ ?_)
    · exact fun _ h => by (show sat W [cel b 96 [.slice (some ⟨g, 0, none⟩) n p], pf g F] _; first | (refine pf_rows HF0.out ?_; refine sb_from ?_ h; (repeat constructor); done))
    clear hs; intro hs
    refine seg_reads (fun _ h => by (show sat W [cel b 96 [.slice (some ⟨g, 0, none⟩) n p], pf g F] _; first | (refine pf_rows HF0.out ?_; refine sb_from ?_ h; (repeat constructor); done))) ?_; intro X f hne hf hcl; (try simp only [Act.put, List.setIfInBounds_toArray, List.set_cons_succ, List.set_cons_zero]); (repeat ((fail); (try simp only [Act.put, List.setIfInBounds_toArray, List.set_cons_succ, List.set_cons_zero]))); refine wpQuiet_nil ?_; clear hcl hf hne hs f X; intro w hs
    go_wp2_with ((go_at_call 67; (refine (blank30 (a := x.c.a) hs).mono ?_); clear hs; rintro e w ⟨rfl, hs⟩))
    (refine seg_on hs (fun _ h => h) ?_ ?_)
    · exact fun _ h => by (show sat W [cel b 96 [.slice (some ⟨g, 0, none⟩) n p], pf g F] _; first | (refine pf_rows HF0.out ?_; refine sb_from ?_ h; (repeat constructor); done))
    clear hs; intro hs
    refine seg_reads (fun _ h => by (show sat W [cel b 96 [.slice (some ⟨g, 0, none⟩) n p], pf g F] _; first | (refine pf_rows HF0.out ?_; refine sb_from ?_ h; (repeat constructor); done))) ?_; intro X f hne hf hcl; (try simp only [Act.put, List.setIfInBounds_toArray, List.set_cons_succ, List.set_cons_zero]); (repeat ((go_big_quiet_step (fail)); (try simp only [Act.put, List.setIfInBounds_toArray, List.set_cons_succ, List.set_cons_zero]))); refine wpQuiet_nil ?_; clear hcl hf hne hs f X; intro w hs
    go_wp2_with ((((with_reducible apply stor hs.b1); exact rfl; exact rfl; exact rfl; exact rfl; (exact HL1.out); exact rws6 _; exact row41; exact rfl; exact rfl; exact rfl; clear hs; intro w hs; (rw [HS1.out] at hs))))
    (refine seg_on hs (fun _ h => h) ?_ ?_)
    · exact fun _ h => by (show sat W [cel b 96 [.slice (some ⟨g, 0, none⟩) n p], pf g F] _; first | (refine pf_rows HF1.out ?_; refine sb_from ?_ h; (repeat constructor); done))
    clear hs; intro hs
    refine seg_reads (fun _ h => by (show sat W [cel b 96 [.slice (some ⟨g, 0, none⟩) n p], pf g F] _; first | (refine pf_rows HF1.out ?_; refine sb_from ?_ h; (repeat constructor); done))) ?_; intro X f hne hf hcl; (try simp only [Act.put, List.setIfInBounds_toArray, List.set_cons_succ, List.set_cons_zero]); (repeat ((go_big_quiet_step (fail)); (try simp only [Act.put, List.setIfInBounds_toArray, List.set_cons_succ, List.set_cons_zero]))); refine wpQuiet_nil ?_; clear hcl hf hne hs f X; intro w hs
    go_wp2_with ((((with_reducible apply stor hs.b0); exact rfl; exact rfl; exact rfl; exact rfl; (exact HL2.out); exact rws6 _; exact row41; exact rfl; exact rfl; exact rfl; clear hs; intro w hs; (rw [HS2.out] at hs))))
    (refine seg_on hs (fun _ h => h) ?_ ?_)
    · exact fun _ h => by (show sat W [cel b 96 [.slice (some ⟨g, 0, none⟩) n p], pf g F] _; first | (refine pf_rows HF2.out ?_; refine sb_from ?_ h; (repeat constructor); done))
    clear hs; intro hs
    refine seg_last (fun _ h => by (show sat W [cel b 96 [.slice (some ⟨g, 0, none⟩) n p], pf g F] _; first | (refine pf_rows HF2.out ?_; refine sb_from ?_ h; (repeat constructor); done))) ?_; intro X f hne hf hcl; (try simp only [Act.put, List.setIfInBounds_toArray, List.set_cons_succ, List.set_cons_zero]); (repeat ((fail); (try simp only [Act.put, List.setIfInBounds_toArray, List.set_cons_succ, List.set_cons_zero]))); refine wpQuiet_nil ?_; clear hcl hf hne hs f X; intro w hs
    go_wp2_with fail
    refine end_end0 rfl rfl ?_
    refine ⟨rfl, ?_⟩
    rw [HP.out, ← HN.out.2]
    have h5 : sat W (cel b 96 [.slice (some ⟨g, 0, none⟩) n p] :: own 110 6 (.slice (some ⟨g, 0, none⟩) n p) n (rws ((ps.set (j - 1) (PC.bl y.c.a)).set j (PC.bl x.c.a))).flatten :: cmb ((ps.set (j - 1) (PC.bl y.c.a)).set j (PC.bl x.c.a)) :: H) w := by
      have h6 : sat W (cmb ps :: own 110 6 (.slice (some ⟨g, 0, none⟩) n p) n (rws ((ps.set (j - 1) (PC.bl y.c.a)).set j (PC.bl x.c.a))).flatten :: cel b 96 [.slice (some ⟨g, 0, none⟩) n p] :: H) w := by refine sb_from ?_ hs; repeat constructor
      have h7 := cmb_set (i := j) (a := x.c.a) (cmb_set (i := j - 1) (a := y.c.a) h6)
      refine sb_from ?_ h7; repeat constructor
    have h8 := rw_close (by rw [List.length_set, List.length_set]; exact HN.out.1) h5
    rw [List.map_set, List.map_set] at h8
    exact h8
  · have HP : Hid (partC l j = l) := Lib.hid (by rw [hpart, if_neg hw])
    have q1 : (x.c.w == 2) = false := by simpa using hw
    have q2 : decide (x.c.w = 2) = false := decide_eq_false hw
    clear hpart hn hps hpn hx hy hlx hly
    go_enter Try.func75, Try.ntmps75
    go_wp2_with (first | (((with_reducible apply ldof hs.b1); exact rfl; exact rfl; exact rfl; (exact HX.out); exact rws6 _; exact rfl; exact one5)) | ((with_reducible refine isl ?_); first | ((with_reducible apply ldx); exact rfl; exact rfl; exact rfl; exact hs.b0; exact rfl; kernel_rfl)))
    refine end_end0 rfl rfl ?_
    exact ⟨rfl, by rw [HP.out, ← HN.out.2]; exact rw_close HN.out.1 hs⟩
theorem part42 {b n : Nat} {l : List C} {k : Int} (hn : l.length = n) (h512 : n ≤ 1000) (hs : sat W (rwP 96 b l :: H) w) : Calls Try.prog 75 #[.pointer (some ⟨b, 0, none⟩), .int .i64 k] w fun e w' => e = .returned (.tuple #[]) ∧ sat W (rwP 96 b (partC l k) :: H) w' := by
  by_cases hk : 0 < k ∧ k < n
  · obtain ⟨j, rfl⟩ : ∃ j : Nat, k = (j : Int) := ⟨k.toNat, by omega⟩
    exact part42_in hn (by omega) (by omega) h512 hs
  · have e : partC l k = l := by
      unfold partC
      rw [if_neg (by rw [hn]; exact hk)]
    rw [e]
    exact part42_out hn hk hs
theorem partC_length (l : List C) (k : Int) : (partC l k).length = l.length := by
  unfold partC
  split
  · split
    · split <;> simp
    · rfl
  · rfl
end Go.Proofs.Ytdcagaaanbgcoaa
