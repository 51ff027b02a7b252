/- Law 8: lines in memory. -/
import Derived.Test.YtdcagaaanbgcoaaV18
import Derived.Test.YtdcagaaanbgcoaaL1
import Derived.Test.YtdcagaaanbgcoaaSt
import Derived.Test.YtdcagaaanbgcoaaSf
namespace Go.Proofs.Ytdcagaaanbgcoaa
open Go.RowKit Go.Mem Go.Cells Go.Lines
variable {W w : World} {H : List HProp}
/-- A line's id and cells. -/
abbrev LN := Int × List C
structure PL where
  id : Int
  b : Nat
  l : List C
abbrev PL.ln (x : PL) : LN := (x.id, x.l)
abbrev plL (x : PL) : List Value := [.int .i64 x.id, .pointer (some ⟨x.b, 0, none⟩)]
abbrev plA (x : PL) : Value := .agg #[.int .i64 x.id, .pointer (some ⟨x.b, 0, none⟩)]
def lvs (ps : List PL) : List (List Value) := ps.map plL
theorem lvs2 (ps : List PL) : All6 2 (lvs ps) := fun r hr => by
  obtain ⟨x, _, rfl⟩ := List.mem_map.1 hr
  rfl
theorem lvs_get {ps : List PL} {i : Nat} {x : PL} (h : ps[i]? = some x) : (lvs ps)[i]? = some (plL x) := by
  unfold lvs
  rw [List.getElem?_map, h]
  rfl
theorem lvs_len (ps : List PL) : (lvs ps).length = ps.length := List.length_map _
theorem lvs_set (ps : List PL) (i : Nat) (x : PL) : (lvs ps).set i (plL x) = lvs (ps.set i x) := by unfold lvs; rw [List.map_set]
theorem lvs_app (ps qs : List PL) : lvs (ps ++ qs) = lvs ps ++ lvs qs := List.map_append
theorem lvs_drop (ps : List PL) (k : Nat) : (lvs ps).drop k = lvs (ps.drop k) := List.map_drop.symm
theorem lvs_take (ps : List PL) (k : Nat) : (lvs ps).take k = lvs (ps.take k) := List.map_take.symm
theorem lvs_snoc (ps : List PL) (x : PL) : (lvs ps).flatten ++ [.int .i64 x.id, .pointer (some ⟨x.b, 0, none⟩)] = (lvs (ps ++ [x])).flatten := by
  rw [lvs_app, List.flatten_append]
  rfl
theorem lvs_one {ps : List PL} : ∀ u ∈ (lvs ps).flatten, u.oneCell' = true := fun u hu => by
  obtain ⟨r, hr, hu⟩ := List.mem_flatten.1 hu
  obtain ⟨x, _, rfl⟩ := List.mem_map.1 hr
  simp at hu
  rcases hu with rfl | rfl <;> rfl
theorem lvs_row1 {ps : List PL} : ∀ r ∈ lvs ps, ∀ u ∈ r, u.oneCell' = true := fun r hr u hu => lvs_one (ps := ps) u (List.mem_flatten.2 ⟨r, hr, hu⟩)
theorem set_same {α : Type} {l : List α} {i : Nat} {x : α} (h : l[i]? = some x) : l.set i x = l := by
  have h2 := (List.getElem?_eq_some_iff.1 h).2
  rw [← h2]
  exact List.set_getElem_self _
/-- The rows of lines, each in a block of its own. -/
def lrw (R : TypeId) : List PL → HProp
  | [] => fun _ => True
  | x :: l => star (rwP R x.b x.l) (lrw R l)
theorem lrw_nil {R : TypeId} (hs : sat W H w) : sat W (lrw R [] :: H) w := sat_tt hs
theorem lrw_cons {R : TypeId} {x : PL} {l : List PL} (hs : sat W (lrw R (x :: l) :: H) w) : sat W (rwP R x.b x.l :: lrw R l :: H) w := sat.unstar (A := rwP R x.b x.l) (B := lrw R l) hs
theorem lrw_mk {R : TypeId} {x : PL} {l : List PL} (hs : sat W (rwP R x.b x.l :: lrw R l :: H) w) : sat W (lrw R (x :: l) :: H) w := sat.star (A := rwP R x.b x.l) (B := lrw R l) hs
theorem lrw_app {R : TypeId} : ∀ {l m : List PL} {H : List HProp}, sat W (lrw R l :: lrw R m :: H) w → sat W (lrw R (l ++ m) :: H) w
  | [], _, _, hs => hs.drop
  | x :: l, m, H, hs => by
    have h1 := lrw_cons hs
    have h2 : sat W (lrw R l :: lrw R m :: rwP R x.b x.l :: H) w := by refine sb_from ?_ h1; repeat constructor
    exact lrw_mk (lrw_app h2).b1
theorem lrw_split {R : TypeId} : ∀ {l m : List PL} {H : List HProp}, sat W (lrw R (l ++ m) :: H) w → sat W (lrw R l :: lrw R m :: H) w
  | [], _, _, hs => lrw_nil hs
  | x :: l, m, H, hs => by
    have h1 : sat W (rwP R x.b x.l :: lrw R (l ++ m) :: H) w := lrw_cons hs
    have h2 := lrw_split (l := l) (m := m) h1.b1
    have h3 : sat W (rwP R x.b x.l :: lrw R l :: lrw R m :: H) w := by refine sb_from ?_ h2; repeat constructor
    exact lrw_mk h3
theorem lrw_drop {R : TypeId} {l : List PL} (k : Nat) (hs : sat W (lrw R l :: H) w) : sat W (lrw R (l.drop k) :: H) w := by
  rw [← List.take_append_drop k l] at hs
  exact (lrw_split hs).drop
theorem lrw_take {R : TypeId} {l : List PL} (k : Nat) (hs : sat W (lrw R l :: H) w) : sat W (lrw R (l.take k) :: H) w := by
  rw [← List.take_append_drop k l] at hs
  exact (lrw_split hs).b1.drop
theorem lrw_at {R : TypeId} {l : List PL} {i : Nat} {x : PL} (h : l[i]? = some x) (hs : sat W (lrw R l :: H) w) : sat W (rwP R x.b x.l :: lrw R (l.take i) :: lrw R (l.drop (i + 1)) :: H) w := by
  have hi := (List.getElem?_eq_some_iff.1 h).1
  have e := List.take_append_drop i l
  rw [List.drop_eq_getElem_cons hi, (List.getElem?_eq_some_iff.1 h).2] at e
  rw [← e] at hs
  have h1 := lrw_cons (lrw_split hs).b1
  refine sb_from ?_ h1; repeat constructor
theorem lrw_put {R : TypeId} {l : List PL} {i : Nat} {y : PL} (h : i < l.length) (hs : sat W (rwP R y.b y.l :: lrw R (l.take i) :: lrw R (l.drop (i + 1)) :: H) w) : sat W (lrw R (l.set i y) :: H) w := by
  have e : l.set i y = l.take i ++ y :: l.drop (i + 1) := by
    rw [List.set_eq_take_append_cons_drop, if_pos h]
  rw [e]
  have h1 : sat W (rwP R y.b y.l :: lrw R (l.drop (i + 1)) :: lrw R (l.take i) :: H) w := by refine sb_from ?_ hs; repeat constructor
  exact lrw_app (lrw_mk h1).b1
theorem lrw_set {R : TypeId} {l : List PL} {i : Nat} {y : PL} (hs : sat W (rwP R y.b y.l :: lrw R l :: H) w) : sat W (lrw R (l.set i y) :: H) w := by
  by_cases h : i < l.length
  · have h1 := lrw_at (List.getElem?_eq_getElem h) hs.b1
    exact lrw_put h (by refine sb_from ?_ h1; repeat constructor)
  · rw [List.set_eq_of_length_le (by omega)]
    exact hs.drop
theorem lrw_snoc {R : TypeId} {l : List PL} {y : PL} (hs : sat W (rwP R y.b y.l :: lrw R l :: H) w) : sat W (lrw R (l ++ [y]) :: H) w := by
  have h1 : sat W (rwP R y.b y.l :: lrw R [] :: lrw R l :: H) w := by
    have h := lrw_nil (R := R) hs
    refine sb_from ?_ h; repeat constructor
  exact lrw_app (lrw_mk h1).b1
/-- A slice of lines, with their rows. -/
def lnP (T R : TypeId) (v : Value) (L : List LN) : HProp := fun h => ∃ ps : List PL, ps.map PL.ln = L ∧ star (own T 2 v L.length (lvs ps).flatten) (lrw R ps) h
theorem ln_open {T R : TypeId} {v : Value} {n : Nat} {L : List LN} (hn : L.length = n) (hs : sat W (lnP T R v L :: H) w) : ∃ ps : List PL, ps.map PL.ln = L ∧ ps.length = n ∧ sat W (own T 2 v n (lvs ps).flatten :: lrw R ps :: H) w := by
  subst hn
  unfold lnP at hs
  obtain ⟨ps, hs⟩ := hs.ex
  obtain ⟨hp, hs⟩ := hs.and_pure
  exact ⟨ps, hp, by rw [← hp, List.length_map], hs.unstar⟩
theorem ln_close {T R : TypeId} {v : Value} {n : Nat} {ps : List PL} (hn : ps.length = n) (hs : sat W (own T 2 v n (lvs ps).flatten :: lrw R ps :: H) w) : sat W (lnP T R v (ps.map PL.ln) :: H) w := by
  subst hn
  unfold lnP
  have h1 := hs.star
  exact h1.imp fun h k => ⟨ps, rfl, by rw [List.length_map]; exact k⟩
theorem ln_nil {T R : TypeId} (hs : sat W H w) : sat W (lnP T R (.slice none 0 0) [] :: H) w := ln_close (ps := []) rfl ((lrw_nil (R := R) hs).own_nil T 2)
/-- A store: its ring and its next id. -/
def stP (b most : Nat) (nx : Int) (L : List LN) : HProp := fun h => ∃ (first : Nat) (ps : List PL) (a : Option Addr) (p : Nat), (Rok most first ps.length ∧ lst first (ps.map PL.ln) = L) ∧
  star (cel b 76 [.int .i64 most, .int .i64 first, .slice a ps.length p, .int .i64 nx]) (star (own 81 2 (.slice a ps.length p) ps.length (lvs ps).flatten) (lrw 96 ps)) h
structure StO (most first n : Nat) (ps : List PL) (L : List LN) : Prop where
  len : ps.length = n
  ok : Rok most first ps.length
  is : lst first (ps.map PL.ln) = L
  sz : L.length = n
theorem StO.at {most first n : Nat} {ps : List PL} {L : List LN} (h : StO most first n ps L) {i : Nat} (hi : i < n) : ∃ x, ps[(first + i) % n]? = some x ∧ L[i]? = some x.ln := by
  have h1 := lst_get (l := ps.map PL.ln) (first := first) (most := most) (by rw [List.length_map]; exact h.ok) (i := i) (by rw [List.length_map, h.len]; exact hi)
  rw [h.is, List.length_map, h.len] at h1
  have h2 : (first + i) % n < ps.length := by rw [h.len]; exact Nat.mod_lt _ (by omega)
  refine ⟨ps[(first + i) % n], List.getElem?_eq_getElem h2, ?_⟩
  rw [h1, List.getElem?_map, List.getElem?_eq_getElem h2]
  rfl
theorem st_open {b most : Nat} {nx : Int} {L : List LN} (hs : sat W (stP b most nx L :: H) w) : ∃ (first n : Nat) (ps : List PL) (a : Option Addr) (p : Nat), Hid (StO most first n ps L) ∧ n ≤ most ∧ first ≤ n ∧
    sat W (cel b 76 [.int .i64 most, .int .i64 first, .slice a n p, .int .i64 nx] :: own 81 2 (.slice a n p) n (lvs ps).flatten :: lrw 96 ps :: H) w := by
  unfold stP at hs
  obtain ⟨first, hs⟩ := hs.ex
  obtain ⟨ps, hs⟩ := hs.ex
  obtain ⟨a, hs⟩ := hs.ex
  obtain ⟨p, hs⟩ := hs.ex
  obtain ⟨⟨h1, h2⟩, hs⟩ := hs.and_pure
  have h3 := hs.unstar.b1.unstar
  refine ⟨first, ps.length, ps, a, p, Lib.hid ⟨rfl, h1, h2, ?_⟩, h1.le, h1.le_len, by refine sb_from ?_ h3; repeat constructor⟩
  rw [← h2, lst_len _ _ (by rw [List.length_map]; exact h1.le_len), List.length_map]
theorem st_close {b most first n p : Nat} {nx : Int} {ps : List PL} {a : Option Addr} {L : List LN} (h : Rok most first ps.length) (hn : ps.length = n) (hL : lst first (ps.map PL.ln) = L)
    (hs : sat W (cel b 76 [.int .i64 most, .int .i64 first, .slice a n p, .int .i64 nx] :: own 81 2 (.slice a n p) n (lvs ps).flatten :: lrw 96 ps :: H) w) : sat W (stP b most nx L :: H) w := by
  subst hn
  have h1 : sat W (own 81 2 (.slice a ps.length p) ps.length (lvs ps).flatten :: lrw 96 ps :: cel b 76 [.int .i64 most, .int .i64 first, .slice a ps.length p, .int .i64 nx] :: H) w := by refine sb_from ?_ hs; repeat constructor
  have h2 := h1.star.b1.star
  unfold stP
  exact h2.imp fun x k => ⟨first, ps, a, p, ⟨h, hL⟩, k⟩
theorem StO.close {b most first n p : Nat} {nx : Int} {ps : List PL} {a : Option Addr} {L : List LN} (h : StO most first n ps L)
    (hs : sat W (cel b 76 [.int .i64 most, .int .i64 first, .slice a n p, .int .i64 nx] :: own 81 2 (.slice a n p) n (lvs ps).flatten :: lrw 96 ps :: H) w) : sat W (stP b most nx L :: H) w := st_close h.ok h.len h.is hs
theorem st_mk {b most : Nat} {nx : Int} (hs : sat W (cel b 76 [.int .i64 most, .int .i64 0, .slice none 0 0, .int .i64 nx] :: H) w) : sat W (stP b most nx [] :: H) w := by
  have e : (lvs []).flatten = [] := rfl
  have h1 := (lrw_nil (R := 96) (hs.own_nil 81 2))
  exact st_close (first := 0) (n := 0) (ps := []) (Rok.start most) rfl rfl (by rw [e]; refine sb_from ?_ h1; repeat constructor)
/-- The document's store: its slice need not begin its block. -/
def lsP (T R : TypeId) (v : Value) (L : List LN) : HProp := fun h => ∃ ps : List PL, ps.map PL.ln = L ∧ star (slP T v L.length (lvs ps).flatten) (lrw R ps) h
theorem ls_open {T R : TypeId} {v : Value} {n : Nat} {L : List LN} (hn : L.length = n) (hs : sat W (lsP T R v L :: H) w) : ∃ ps : List PL, ps.map PL.ln = L ∧ ps.length = n ∧ sat W (slP T v n (lvs ps).flatten :: lrw R ps :: H) w := by
  subst hn
  unfold lsP at hs
  obtain ⟨ps, hs⟩ := hs.ex
  obtain ⟨hp, hs⟩ := hs.and_pure
  exact ⟨ps, hp, by rw [← hp, List.length_map], hs.unstar⟩
theorem ls_close {T R : TypeId} {v : Value} {n : Nat} {ps : List PL} (hn : ps.length = n) (hs : sat W (slP T v n (lvs ps).flatten :: lrw R ps :: H) w) : sat W (lsP T R v (ps.map PL.ln) :: H) w := by
  subst hn
  unfold lsP
  have h1 := hs.star
  exact h1.imp fun h k => ⟨ps, rfl, by rw [List.length_map]; exact k⟩
def dsP (b : Nat) (nx : Int) (most : Nat) (L : List LN) : HProp := fun h => ∃ v, star (cel b 88 [.int .i64 nx, .int .i64 most, v]) (lsP 93 100 v L) h
theorem ds_open {b most n : Nat} {nx : Int} {L : List LN} (hn : L.length = n) (hs : sat W (dsP b nx most L :: H) w) : ∃ (ps : List PL) (a : Option Addr) (c : Nat), Hid (ps.map PL.ln = L ∧ ps.length = n) ∧ sat W (cel b 88 [.int .i64 nx, .int .i64 most, .slice a n c] :: slP 93 (.slice a n c) n (lvs ps).flatten :: lrw 100 ps :: H) w := by
  unfold dsP at hs
  obtain ⟨v, hs⟩ := hs.ex
  obtain ⟨ps, h1, h2, hs⟩ := ls_open hn hs.unstar.b1
  obtain ⟨a, c, rfl⟩ := hs.slP_len
  exact ⟨ps, a, c, Lib.hid ⟨h1, h2⟩, by refine sb_from ?_ hs; repeat constructor⟩
theorem ds_close {b most n : Nat} {nx : Int} {v : Value} {ps : List PL} {L : List LN} (hn : ps.length = n) (hL : ps.map PL.ln = L) (hs : sat W (cel b 88 [.int .i64 nx, .int .i64 most, v] :: slP 93 v n (lvs ps).flatten :: lrw 100 ps :: H) w) : sat W (dsP b nx most L :: H) w := by
  have h1 : sat W (slP 93 v n (lvs ps).flatten :: lrw 100 ps :: cel b 88 [.int .i64 nx, .int .i64 most, v] :: H) w := by refine sb_from ?_ hs; repeat constructor
  have h2 := (ls_close hn h1).b1.star
  rw [hL] at h2
  unfold dsP
  exact h2.imp fun h k => ⟨v, k⟩
theorem lvs_size (ps : List PL) : (lvs ps).flatten.length = ps.length * 2 := by rw [flat_size (lvs2 ps), lvs_len]
theorem lvs_at {ps : List PL} {i : Nat} {x : PL} (h : ps[i]? = some x) : (lvs ps).flatten[i * 2]? = some (.int .i64 x.id) ∧ (lvs ps).flatten[i * 2 + 1]? = some (.pointer (some ⟨x.b, 0, none⟩)) :=
  ⟨flat_at (k := 0) (lvs2 ps) (lvs_get h) rfl, flat_at (k := 1) (lvs2 ps) (lvs_get h) rfl⟩
theorem row29 : rowTy Try.prog 81 2 = true := by kernel_rfl
theorem row64 : rowTy Try.prog 93 2 = true := by kernel_rfl
theorem row40 : rowTy Try.prog 102 2 = true := by kernel_rfl
theorem row47 : rowTy Try.prog 74 3 = true := by kernel_rfl
theorem row49 : rowTy Try.prog 76 4 = true := by kernel_rfl
theorem row74 : rowTy Try.prog 88 3 = true := by kernel_rfl
theorem one27 : oneTy Try.prog 53 = true := by kernel_rfl
theorem one62 : oneTy Try.prog 91 = true := by kernel_rfl
theorem one45 : oneTy Try.prog 44 = true := by kernel_rfl
theorem one58 : oneTy Try.prog 83 = true := by kernel_rfl
theorem slty45 : SlTy Try.prog 44 81 2 16 := ⟨Try.underlying44, by obtain ⟨i0, hi, hz0, hz1, hz2⟩ := info_parts (show (Try.prog.info? 81).map (fun i => (i.zero, i.size, i.bytes)) = some (some (.agg #[.int .i64 0, .pointer none]), 2, 16) by kernel_rfl); exact ⟨i0, _, hi, hz0, hz1, hz2, rfl⟩, by decide⟩
theorem slty58 : SlTy Try.prog 83 93 2 16 := ⟨Try.underlying83, by obtain ⟨i0, hi, hz0, hz1, hz2⟩ := info_parts (show (Try.prog.info? 93).map (fun i => (i.zero, i.size, i.bytes)) = some (some (.agg #[.int .i64 0, .pointer none]), 2, 16) by kernel_rfl); exact ⟨i0, _, hi, hz0, hz1, hz2, rfl⟩, by decide⟩
end Go.Proofs.Ytdcagaaanbgcoaa
namespace Go.Proofs.Ytdcagaaanbgcoaa
open Go.RowKit Go.Mem Go.Cells Go.Lines
variable {W w : World} {H : List HProp}
attribute [local irreducible] rowTy oneTy World.setCell World.setCells World.alloc World.drew World.drewN Calls sat cel own blk old wpQuiet wpList cmb cmb1 rwP cls rws wi wh fst_ World.rangeAt lrw lnP stP lsP dsP lvs
theorem ready27 {b : Nat} {nx : Int} {v0 v1 v2 : Value} (h : 0 < nx) (hs : sat W (cel b 76 [v0, v1, v2, .int .i64 nx] :: H) w) : Calls Try.prog 42 #[.pointer (some ⟨b, 0, none⟩)] w fun e w' => e = .returned (.bool true) ∧ sat W (cel b 76 [v0, v1, v2, .int .i64 nx] :: H) w' := by
  have g1 : decide ((0 : Int) < nx) = true := decide_eq_true h
  go_enter Try.func42, Try.ntmps42
  go_wp2_with (((with_reducible refine isl ?_); first | ((with_reducible apply ldx); exact rfl; exact rfl; exact rfl; exact hs.b0; exact rfl; kernel_rfl)))
  go_ret
  exact ⟨rfl, hs⟩
theorem ready27_nil (hs : sat W H w) : Calls Try.prog 42 #[.pointer none] w fun e w' => e = .returned (.bool false) ∧ sat W H w' := by
  go_enter Try.func42, Try.ntmps42
  go_wp2_with fail
  go_ret
  exact ⟨rfl, hs⟩
theorem ready27_zero {b : Nat} {v0 v1 v2 : Value} (hs : sat W (cel b 76 [v0, v1, v2, .int .i64 0] :: H) w) : Calls Try.prog 42 #[.pointer (some ⟨b, 0, none⟩)] w fun e w' => e = .returned (.bool false) ∧ sat W (cel b 76 [v0, v1, v2, .int .i64 0] :: H) w' := by
  go_enter Try.func42, Try.ntmps42
  go_wp2_with (((with_reducible refine isl ?_); first | ((with_reducible apply ldx); exact rfl; exact rfl; exact rfl; exact hs.b0; exact rfl; kernel_rfl)))
  go_ret
  exact ⟨rfl, hs⟩
theorem ready27_st {b most : Nat} {nx : Int} {L : List LN} (h : 0 < nx) (hs : sat W (stP b most nx L :: H) w) : Calls Try.prog 42 #[.pointer (some ⟨b, 0, none⟩)] w fun e w' => e = .returned (.bool true) ∧ sat W (stP b most nx L :: H) w' := by
  obtain ⟨first, n, ps, a, p, HO, hn, hf, hs⟩ := st_open hs
  exact (ready27 h hs).mono fun e w' ⟨he, hs⟩ => ⟨he, HO.out.close hs⟩
theorem add31 {b b2 most : Nat} {nx id : Int} {L : List LN} {l : List C} (hm : most ≤ 10000) (hs : sat W (stP b most nx L :: rwP 96 b2 l :: H) w) : Calls Try.prog 80 #[.pointer (some ⟨b, 0, none⟩), .agg #[.int .i64 id, .pointer (some ⟨b2, 0, none⟩)]] w fun e w' => e = .returned (.tuple #[]) ∧ sat W (stP b most nx (push most L (id, l)) :: H) w' := by
  obtain ⟨first, n, ps, a, p, HO, hn, hf, hs⟩ := st_open hs
  have HLN := Lib.hid HO.out.len
  have HIS := Lib.hid HO.out.is
  by_cases h0 : most = 0
  · have g1 : (most : Int) = 0 := by omega
    have HP : Hid (push most L (id, l) = L) := Lib.hid (by rw [← HO.out.is]; subst h0; exact add_none (by rw [List.length_map]; exact HO.out.ok) _)
    rw [HP.out]
    clear h0
    go_enter Try.func80, Try.ntmps80
    go_wp2_with (((with_reducible refine isl ?_); first | ((with_reducible apply ldx); exact rfl; exact rfl; exact rfl; (exact hs.b1); exact rfl; kernel_rfl) | ((with_reducible refine wrap hs ?_); clear hs; (generalize w.heap.size = z4); intro w hs)))
    refine end_end0 rfl rfl ?_
    exact ⟨rfl, HO.out.close (by refine sb_from ?_ hs; repeat constructor)⟩
  · have g1 : ¬ (most : Int) = 0 := by omega
    by_cases h1 : n < most
    · have g2 : (n : Int) < (most : Int) := by omega
      have HA := add_more (l := ps.map PL.ln) (first := first) (by rw [List.length_map]; exact HO.out.ok) (by rw [List.length_map, HLN.out]; exact h1) (id, l)
      rw [HO.out.is] at HA
      replace HA := Lib.hid HA
      have HS : Hid ((lvs ps).flatten ++ [.int .i64 id, .pointer (some ⟨b2, 0, none⟩)] = (lvs (ps ++ [⟨id, b2, l⟩])).flatten) := Lib.hid (lvs_snoc ps ⟨id, b2, l⟩)
      clear h0
      go_enter Try.func80, Try.ntmps80
      go_upto_region 4 with (((with_reducible refine isl ?_); first | ((with_reducible apply ldx); exact rfl; exact rfl; exact rfl; (exact hs.b1); exact rfl; kernel_rfl) | ((with_reducible refine wrap hs ?_); clear hs; (generalize w.heap.size = z4); intro w hs)))
      ((try simp only [Act.put, List.setIfInBounds_toArray, List.set_cons_succ, List.set_cons_zero]); refine region_sat hs (by kernel_rfl) (by kernel_rfl) ?_; intro X f hne hf hcl; (repeat ((first | ((with_reducible apply ldqx); exact rfl; exact rfl; exact rfl; (exact fun x => (hf x).b1); exact rfl; kernel_rfl) | go_big_quiet_step (fail)); (try simp only [Act.put, List.setIfInBounds_toArray, List.set_cons_succ, List.set_cons_zero]))); refine wpQuiet_nil ?_; clear hcl hf hne hs f X; intro w hs)
      go_upto_region 5 with fail
      replace hs : sat W (own 81 2 (.slice a n p) n (lvs ps).flatten :: cel b 76 [.int .i64 most, .int .i64 first, .slice a n p, .int .i64 nx] :: cel z4 81 [.int .i64 id, .pointer (some ⟨b2, 0, none⟩)] :: lrw 96 ps :: rwP 96 b2 l :: H) w := by refine sb_from ?_ hs; repeat constructor
      refine L_begin 10 10 [cel b 76 [.int .i64 most, .int .i64 first, .slice a n p, .int .i64 nx], cel z4 81 [.int .i64 id, .pointer (some ⟨b2, 0, none⟩)]] [cel b 76 [.int .i64 most, .int .i64 first, .slice a n p, .int .i64 nx], cel z4 81 [.int .i64 id, .pointer (some ⟨b2, 0, none⟩)]] hs (fun _ h => by (refine sb_from ?_ h; repeat constructor)) (fun _ h => by (refine sb_from ?_ h; repeat constructor)) (by kernel_rfl) ?_; clear hs; intro w hs hd
      refine L_reads2 [0, 1, 2, 3, 4, 5] #[true, true, true, true, true, true, false, false, false, false, false] (fuel := 5) hd (by kernel_rfl) (fun _ _ _ _ _ h => h) ?_; clear hd; intro X f hne hf hcl hd; simp only [nths, nth, List.append_nil, List.nil_append, List.cons_append]; (try simp only [Act.put, List.setIfInBounds_toArray, List.set_cons_succ, List.set_cons_zero]); (repeat ((first | ((with_reducible apply ldsqx 2); exact rfl; exact rfl; exact rfl; (first | exact fun x => (hf x).b0 | exact fun x => (hf x).b1); exact row29; exact rfl; exact rfl) | ((with_reducible apply ldqx); exact rfl; exact rfl; exact rfl; (exact fun x => (hf x).b0); exact rfl; kernel_rfl) | go_big_quiet_step (fail)); (try simp only [Act.put, List.setIfInBounds_toArray, List.set_cons_succ, List.set_cons_zero]))); refine wpQuiet_nil ?_; clear hcl hf hne f X
      refine L_each [6] (by kernel_rfl) ⟨?_, trivial⟩
      simp only [nth]
      go_wp2_with (fail)
      (refine on_now hs.made ?_); clear hs; intro hs
      refine L_on [cel b 76 [.int .i64 most, .int .i64 first, .slice a n p, .int .i64 nx], cel z4 81 [.int .i64 id, .pointer (some ⟨b2, 0, none⟩)]] [cel b 76 [.int .i64 most, .int .i64 first, .slice a n p, .int .i64 nx], cel z4 81 [.int .i64 id, .pointer (some ⟨b2, 0, none⟩)]] #[true, true, true, true, true, true, true, false, false, false, false] (fuel := 4) hs (by kernel_rfl) (fun _ h => h) (fun _ h => h) (fun _ => by (refine sb_from ?_ hs; repeat constructor)) (fun _ => by (refine sb_from ?_ hs; repeat constructor)) ?_; clear hd hs; intro hd hs
      refine L_each [7] (by kernel_rfl) ⟨?_, trivial⟩
      simp only [nth]
      go_wp2_with (((with_reducible apply app hs.b1); exact rfl; exact rfl; exact rfl; exact rfl; exact slty45; exact rfl; exact rfl; decide; omega; (unfold maxLen; omega); clear hs; intro a9 c9 w hs; rw [HS.out] at hs))
      (refine on_now hs ?_); clear hs; intro hs
      refine L_on [cel b 76 [.int .i64 most, .int .i64 first, .slice a n p, .int .i64 nx], cel z4 81 [.int .i64 id, .pointer (some ⟨b2, 0, none⟩)]] [cel b 76 [.int .i64 most, .int .i64 first, .slice a n p, .int .i64 nx], cel z4 81 [.int .i64 id, .pointer (some ⟨b2, 0, none⟩)]] #[true, true, true, true, true, true, true, true, false, false, false] (fuel := 3) hs (by kernel_rfl) (fun _ h => h) (fun _ h => h) (fun _ => by (refine sb_from ?_ hs; repeat constructor)) (fun _ => by (refine sb_from ?_ hs; repeat constructor)) ?_; clear hd hs; intro hd hs
      refine L_each [8] (by kernel_rfl) ⟨?_, trivial⟩
      simp only [nth]
      go_wp2_with (fail)
      (refine on_now hs ?_); clear hs; intro hs
      refine L_on [cel b 76 [.int .i64 most, .int .i64 first, .slice a n p, .int .i64 nx], cel z4 81 [.int .i64 id, .pointer (some ⟨b2, 0, none⟩)]] [cel b 76 [.int .i64 most, .int .i64 first, .slice a n p, .int .i64 nx], cel z4 81 [.int .i64 id, .pointer (some ⟨b2, 0, none⟩)]] #[true, true, true, true, true, true, true, true, true, false, false] (fuel := 2) hs (by kernel_rfl) (fun _ h => h) (fun _ h => h) (fun _ => by (refine sb_from ?_ hs; repeat constructor)) (fun _ => by (refine sb_from ?_ hs; repeat constructor)) ?_; clear hd hs; intro hd hs
      refine L_reads2 [9] #[true, true, true, true, true, true, true, true, true, true, false] (fuel := 1) hd (by kernel_rfl) (fun _ _ _ _ _ h => h) ?_; clear hd; intro X f hne hf hcl hd; simp only [nths, nth, List.append_nil, List.nil_append, List.cons_append]; (try simp only [Act.put, List.setIfInBounds_toArray, List.set_cons_succ, List.set_cons_zero]); (repeat ((go_big_quiet_step (fail)); (try simp only [Act.put, List.setIfInBounds_toArray, List.set_cons_succ, List.set_cons_zero]))); refine wpQuiet_nil ?_; clear hcl hf hne f X
      refine L_each [10] (by kernel_rfl) ⟨?_, trivial⟩
      simp only [nth]
      go_wp2_with (((with_reducible refine isl ?_); first | ((with_reducible apply stx); exact rfl; exact rfl; exact rfl; (exact hs.b1); exact rfl; exact rfl; exact rfl; kernel_rfl; exact rfl; clear hs; intro w hs)))
      (refine on_now hs ?_); clear hs; intro hs
      refine L_on [cel b 76 [.int .i64 most, .int .i64 first, .slice a n p, .int .i64 nx], cel z4 81 [.int .i64 id, .pointer (some ⟨b2, 0, none⟩)]] [cel b 76 [.int .i64 most, .int .i64 first, .slice a n p, .int .i64 nx], cel z4 81 [.int .i64 id, .pointer (some ⟨b2, 0, none⟩)]] #[true, true, true, true, true, true, true, true, true, true, true] (fuel := 0) hs (by kernel_rfl) (fun _ h => h) (fun _ h => h) (fun e => absurd e (by decide)) (fun e => absurd e (by decide)) ?_; clear hd hs; intro hd hs
      refine L_done (by kernel_rfl) ?_; clear hd
      go_wp2_with fail
      refine end_end0 rfl rfl ?_
      have h2 : sat W (rwP 96 b2 l :: lrw 96 ps :: cel b 76 [.int .i64 most, .int .i64 first, .slice (some ⟨a9, 0, none⟩) (n + 1) c9, .int .i64 nx] :: own 81 2 (.slice (some ⟨a9, 0, none⟩) (n + 1) c9) (n + 1) (lvs (ps ++ [⟨id, b2, l⟩])).flatten :: H) w := by refine sb_from ?_ hs; repeat constructor
      have h3 := lrw_snoc (y := ⟨id, b2, l⟩) h2
      refine ⟨rfl, st_close (n := n + 1) (ps := ps ++ [⟨id, b2, l⟩]) ?_ ?_ ?_ (by refine sb_from ?_ h3; repeat constructor)⟩
      · have h4 := HA.out.2
        rw [List.length_append, List.length_map] at h4
        rw [List.length_append]
        exact h4
      · rw [List.length_append, HLN.out]; rfl
      · rw [HA.out.1, List.map_append]; rfl
    · have g2 : ¬ (n : Int) < (most : Int) := by omega
      have g3 : n = most := by omega
      have HA := add_over (l := ps.map PL.ln) (first := first) (by rw [List.length_map]; exact HO.out.ok) (by omega) (by rw [List.length_map, HLN.out]; exact h1) (id, l)
      rw [HO.out.is] at HA
      have g4 : first < n := by have h := HA.2.2; rw [List.length_map, HLN.out] at h; exact h
      replace HA := Lib.hid HA
      have HS : Hid ((lvs ps).set first [.int .i64 id, .pointer (some ⟨b2, 0, none⟩)] = lvs (ps.set first ⟨id, b2, l⟩)) := Lib.hid (lvs_set ps first ⟨id, b2, l⟩)
      have HL : Hid (first < (lvs ps).length) := Lib.hid (by rw [lvs_len, HLN.out]; exact g4)
      obtain ⟨g, rfl⟩ := own_ptr (by omega) hs.b1
      have g5 : ¬ (most : Int) = 0 := by omega
      have g6 : (first : Int) < (n : Int) := by omega
      have HN := Lib.hid g3
      clear h0 g3
      go_enter Try.func80, Try.ntmps80
      go_upto_region 4 with (((with_reducible refine isl ?_); first | ((with_reducible apply ldx); exact rfl; exact rfl; exact rfl; (exact hs.b1); exact rfl; kernel_rfl) | ((with_reducible refine wrap hs ?_); clear hs; (generalize w.heap.size = z4); intro w hs)))
      ((try simp only [Act.put, List.setIfInBounds_toArray, List.set_cons_succ, List.set_cons_zero]); refine region_sat hs (by kernel_rfl) (by kernel_rfl) ?_; intro X f hne hf hcl; (repeat ((first | ((with_reducible apply ldqx); exact rfl; exact rfl; exact rfl; (exact fun x => (hf x).b1); exact rfl; kernel_rfl) | go_big_quiet_step (fail)); (try simp only [Act.put, List.setIfInBounds_toArray, List.set_cons_succ, List.set_cons_zero]))); refine wpQuiet_nil ?_; clear hcl hf hne hs f X; intro w hs)
      go_upto_region 1 with fail
      refine L_begin 10 10 [cel b 76 [.int .i64 most, .int .i64 first, .slice (some ⟨g, 0, none⟩) n p, .int .i64 nx], cel z4 81 [.int .i64 id, .pointer (some ⟨b2, 0, none⟩)]] [cel b 76 [.int .i64 most, .int .i64 first, .slice (some ⟨g, 0, none⟩) n p, .int .i64 nx], cel z4 81 [.int .i64 id, .pointer (some ⟨b2, 0, none⟩)]] hs (fun _ h => by (refine sb_from ?_ h; repeat constructor)) (fun _ h => by (refine sb_from ?_ h; repeat constructor)) (by kernel_rfl) ?_; clear hs; intro w hs hd
      refine L_reads2 [0, 1, 2, 3, 4, 5, 6, 7, 8, 9] #[true, true, true, true, true, true, true, true, true, true, false] (fuel := 1) hd (by kernel_rfl) (fun _ _ _ _ _ h => h) ?_; clear hd; intro X f hne hf hcl hd; simp only [nths, nth, List.append_nil, List.nil_append, List.cons_append]; (try simp only [Act.put, List.setIfInBounds_toArray, List.set_cons_succ, List.set_cons_zero]); (repeat ((first | ((with_reducible apply ldsqx 2); exact rfl; exact rfl; exact rfl; (first | exact fun x => (hf x).b0 | exact fun x => (hf x).b1); exact row29; exact rfl; exact rfl) | ((with_reducible apply ldqx); exact rfl; exact rfl; exact rfl; (exact fun x => (hf x).b0); exact rfl; kernel_rfl) | go_big_quiet_step (fail)); (try simp only [Act.put, List.setIfInBounds_toArray, List.set_cons_succ, List.set_cons_zero]))); refine wpQuiet_nil ?_; clear hcl hf hne f X
      refine L_each [10] (by kernel_rfl) ⟨?_, trivial⟩
      simp only [nth]
      go_wp2_with (((with_reducible refine isl ?_); first | ((with_reducible apply stor hs.b2); exact rfl; exact rfl; exact rfl; exact rfl; exact HL.out; exact lvs2 _; exact row29; exact rfl; exact rfl; exact rfl; clear hs; intro w hs; simp only [List.take_succ_cons, List.take_zero, List.drop_zero] at hs; rw [HS.out] at hs)))
      (refine on_now hs ?_); clear hs; intro hs
      refine L_on [cel b 76 [.int .i64 most, .int .i64 first, .slice (some ⟨g, 0, none⟩) n p, .int .i64 nx], cel z4 81 [.int .i64 id, .pointer (some ⟨b2, 0, none⟩)]] [cel b 76 [.int .i64 most, .int .i64 first, .slice (some ⟨g, 0, none⟩) n p, .int .i64 nx], cel z4 81 [.int .i64 id, .pointer (some ⟨b2, 0, none⟩)]] #[true, true, true, true, true, true, true, true, true, true, true] (fuel := 0) hs (by kernel_rfl) (fun _ h => h) (fun _ h => h) (fun e => absurd e (by decide)) (fun e => absurd e (by decide)) ?_; clear hd hs; intro hd hs
      refine L_done (by kernel_rfl) ?_; clear hd
      go_upto_region 2 with fail
      ((try simp only [Act.put, List.setIfInBounds_toArray, List.set_cons_succ, List.set_cons_zero]); refine region_tail 13 hs (by kernel_rfl) (by kernel_rfl) ?_; simp only [List.take_succ_cons, List.take_zero, List.drop_succ_cons, List.drop_zero]; clear hs; intro w hs; (repeat ((first | ((with_reducible apply ldt hs.b2); exact rfl; exact rfl; exact rfl; exact rfl; kernel_rfl) | go_big_quiet_step (fail)); (try simp only [Act.put, List.setIfInBounds_toArray, List.set_cons_succ, List.set_cons_zero]))); refine wpQuiet_nil ?_)
      go_wp2_with (((with_reducible refine isl ?_); first | ((with_reducible apply stx); exact rfl; exact rfl; exact rfl; (exact hs.b2); exact rfl; exact rfl; exact rfl; kernel_rfl; exact rfl; clear hs; intro w hs)))
      refine end_end0 rfl rfl ?_
      have e1 : ((first : Int) + 1) % (most : Int) = (((first + 1) % most : Nat) : Int) := by simp
      rw [e1] at hs
      have h2 : sat W (rwP 96 b2 l :: lrw 96 ps :: cel b 76 [.int .i64 most, .int .i64 ((first + 1) % most : Nat), .slice (some ⟨g, 0, none⟩) n p, .int .i64 nx] :: own 81 2 (.slice (some ⟨g, 0, none⟩) n p) n (lvs (ps.set first ⟨id, b2, l⟩)).flatten :: H) w := by refine sb_from ?_ hs; repeat constructor
      have h3 := lrw_set (i := first) (y := ⟨id, b2, l⟩) h2
      refine ⟨rfl, st_close (n := n) (ps := ps.set first ⟨id, b2, l⟩) ?_ ?_ ?_ (by refine sb_from ?_ h3; repeat constructor)⟩
      · have h4 := HA.out.2.1
        rw [List.length_set, List.length_map] at h4
        rw [List.length_set]
        exact h4
      · rw [List.length_set, HLN.out]
      · rw [HA.out.1, List.map_set]
theorem get33 {b most first n p i g : Nat} {nx : Int} {ps : List PL} {id : Int} {b2 : Nat} {l : List C} (hx : ps[(first + i) % n]? = some ⟨id, b2, l⟩) (hi : i < n) (hf : first ≤ n) (h1 : n ≤ 10000) (hs : sat W (cel b 76 [.int .i64 most, .int .i64 first, .slice (some ⟨g, 0, none⟩) n p, .int .i64 nx] :: own 81 2 (.slice (some ⟨g, 0, none⟩) n p) n (lvs ps).flatten :: H) w) :
    Calls Try.prog 59 #[.pointer (some ⟨b, 0, none⟩), .int .i64 (i : Int)] w fun e w' => e = .returned (.agg #[.int .i64 id, .pointer (some ⟨b2, 0, none⟩)]) ∧ sat W (cel b 76 [.int .i64 most, .int .i64 first, .slice (some ⟨g, 0, none⟩) n p, .int .i64 nx] :: own 81 2 (.slice (some ⟨g, 0, none⟩) n p) n (lvs ps).flatten :: H) w' := by
  obtain ⟨j, hj⟩ : ∃ j, (first + i) % n = j := ⟨_, rfl⟩
  have e1 : ((first : Int) + (i : Int)) % (n : Int) = (j : Int) := by rw [← hj]; simp
  have hjn : j < n := by rw [← hj]; exact Nat.mod_lt _ (by omega)
  have e2 : (j : Int) < (n : Int) := by omega
  have e3 : ¬ (n : Int) = 0 := by omega
  rw [hj] at hx
  have HX := Lib.hid (lvs_get hx)
  clear hx hj
  go_enter Try.func59, Try.ntmps59
  go_upto_region 1 with (((with_reducible refine isl ?_); first | ((with_reducible refine wrap hs ?_); clear hs; (generalize w.heap.size = z4); intro w hs)))
  refine L_begin 18 18 [cel b 76 [.int .i64 most, .int .i64 first, .slice (some ⟨g, 0, none⟩) n p, .int .i64 nx], own 81 2 (.slice (some ⟨g, 0, none⟩) n p) n (lvs ps).flatten] [cel b 76 [.int .i64 most, .int .i64 first, .slice (some ⟨g, 0, none⟩) n p, .int .i64 nx], own 81 2 (.slice (some ⟨g, 0, none⟩) n p) n (lvs ps).flatten] hs (fun _ h => by (refine sb_from ?_ h; repeat constructor)) (fun _ h => by (refine sb_from ?_ h; repeat constructor)) (by kernel_rfl) ?_; clear hs; intro w hs hd
  refine L_reads2 [0, 1, 2, 3, 4, 5, 6, 7, 8, 9, 10, 11, 12, 13, 14, 15, 16, 17] #[true, true, true, true, true, true, true, true, true, true, true, true, true, true, true, true, true, true, false] (fuel := 1) hd (by kernel_rfl) (fun _ _ _ _ _ h => h) ?_; clear hd; intro X f hne hf hcl hd; simp only [nths, nth, List.append_nil, List.nil_append, List.cons_append]; (try simp only [Act.put, List.setIfInBounds_toArray, List.set_cons_succ, List.set_cons_zero]); (repeat ((first | ((with_reducible apply ldorq (fun x => (hf x).b1)); exact rfl; exact rfl; exact rfl; exact HX.out; exact lvs2 _; exact row29) | ((with_reducible apply ldqx); exact rfl; exact rfl; exact rfl; (exact fun x => (hf x).b0); exact rfl; kernel_rfl) | go_big_quiet_step (fail)); (try simp only [Act.put, List.setIfInBounds_toArray, List.set_cons_succ, List.set_cons_zero]))); refine wpQuiet_nil ?_; clear hcl hf hne f X
  refine L_each [18] (by kernel_rfl) ⟨?_, trivial⟩
  simp only [nth]
  go_wp2_with (((with_reducible refine isl ?_); first | ((with_reducible apply stswx); exact rfl; exact rfl; exact rfl; (exact hs.b0); exact rfl; exact row29; exact rfl; exact rfl; exact rfl; clear hs; intro w hs)))
  (refine on_now hs ?_); clear hs; intro hs
  refine L_on [cel b 76 [.int .i64 most, .int .i64 first, .slice (some ⟨g, 0, none⟩) n p, .int .i64 nx], own 81 2 (.slice (some ⟨g, 0, none⟩) n p) n (lvs ps).flatten] [cel b 76 [.int .i64 most, .int .i64 first, .slice (some ⟨g, 0, none⟩) n p, .int .i64 nx], own 81 2 (.slice (some ⟨g, 0, none⟩) n p) n (lvs ps).flatten] #[true, true, true, true, true, true, true, true, true, true, true, true, true, true, true, true, true, true, true] (fuel := 0) hs (by kernel_rfl) (fun _ h => h) (fun _ h => h) (fun e => absurd e (by decide)) (fun e => absurd e (by decide)) ?_; clear hd hs; intro hd hs
  refine L_done (by kernel_rfl) ?_; clear hd
  go_wp2_with fail
  (refine ret_cell hs.b0 rfl rfl rfl row29 ?_)
  exact ⟨rfl, by refine sb_from ?_ hs; repeat constructor⟩
end Go.Proofs.Ytdcagaaanbgcoaa
