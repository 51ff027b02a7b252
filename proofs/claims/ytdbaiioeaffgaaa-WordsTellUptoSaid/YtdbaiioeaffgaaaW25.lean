/- Law 20: Tell's walk. -/
import Derived.Test.YtdbaiioeaffgaaaW24
namespace Go.Proofs.Ytdbaiioeaffgaaa
open Go.RowKit Go.Mem Go.Words Go.Deep
variable {W w : World} {H : List HProp} {a : Option Addr} {n cp : Nat} {L : List Cm}
theorem cs_own {c : Nat} (hs : sat W (own 36 6 (.slice a n c) n (cellsF L) :: rowsS L :: H) w) : CS W (own 36 6 (.slice a n c) n (cellsF L) :: rowsS L :: H) a n c L := by
  refine ⟨SR.of_own (L := L.map cmV) hs (by decide) (by intro r hr; obtain ⟨p, _, rfl⟩ := List.mem_map.1 hr; rfl), fun m hm w' hw => ?_⟩
  obtain ⟨A, B, e⟩ := List.append_of_mem hm
  have h1 := hw.b1
  rw [e] at h1
  exact (rows_out A m B h1).own_reads.1
theorem cellsF_get {k : Nat} {m : Cm} (h : L[k]? = some m) (j : Nat) (hj : j < 6) : (cellsF L)[k * 6 + j]? = (cmV m)[j]? :=
  flat_get (size := 6) (L.map cmV) k j (cmV m) (by intro r hr; obtain ⟨p, _, rfl⟩ := List.mem_map.1 hr; rfl) (by rw [List.getElem?_map, h]; rfl) hj
theorem cellsF_setR : ∀ (L : List Cm) (k : Nat) (m : Cm) (r : Int), L[k]? = some m → (cellsF L).set (k * 6) (.int .i32 r) = cellsF (L.set k ⟨⟨r, m.c.comb, m.c.wide⟩, m.ca, m.cc, m.fg, m.bg, m.fl⟩)
  | [], k, m, r, h => by simp at h
  | x :: L, 0, m, r, h => by
    obtain rfl : x = m := by simpa using h
    rfl
  | x :: L, k + 1, m, r, h => by
    have ih := cellsF_setR L k m r (by simpa using h)
    have e : ∀ (y : Cm) (M : List Cm), cellsF (y :: M) = cmV y ++ cellsF M := fun y M => rfl
    rw [e, List.set_cons_succ, e, List.set_append_right _ _ (by simp; omega), show (k + 1) * 6 - (cmV x).length = k * 6 by simp; omega, ih]
theorem rowsS_set : ∀ (L : List Cm) (k : Nat) (m : Cm) (r : Int), L[k]? = some m → rowsS (L.set k ⟨⟨r, m.c.comb, m.c.wide⟩, m.ca, m.cc, m.fg, m.bg, m.fl⟩) = rowsS L
  | [], k, m, r, h => by simp at h
  | x :: L, 0, m, r, h => by
    obtain rfl : x = m := by simpa using h
    rfl
  | x :: L, k + 1, m, r, h => by
    have ih := rowsS_set L k m r (by simpa using h)
    rw [List.set_cons_succ]
    show star (ownM x) (rowsS (L.set k _)) = star (ownM x) (rowsS L)
    rw [ih]
theorem i32s_set (l : List Int) (j : Nat) (v : Int) : (i32s l).set j (.int .i32 v) = i32s (l.set j v) := by
  rw [i32s, i32s, List.map_set]
theorem i32s_is {l : List Int} {j : Nat} (h : j < l.length) : (i32s l)[j]?.isSome = true := by simp [h]
/-- The marks of a cell changed: the cells stay. -/
theorem cells_like (A B : List Cm) (m : Cm) (cb : List Int) (h : cb.length = m.c.comb.length) : cellsF (A ++ ⟨⟨m.c.r, cb, m.c.wide⟩, m.ca, m.cc, m.fg, m.bg, m.fl⟩ :: B) = cellsF (A ++ m :: B) := by
  have e : cmV ⟨⟨m.c.r, cb, m.c.wide⟩, m.ca, m.cc, m.fg, m.bg, m.fl⟩ = cmV m := by
    show [_, Value.slice m.ca cb.length m.cc, _, _, _, _] = _
    rw [h]
  unfold cellsF
  rw [List.map_append, List.map_append, List.map_cons, List.map_cons, e]
theorem rpart_zero (l : List Cl) : rpart l 0 0 = [] := by
  have h := rpart_len l 0
  have : (rpart l 0 ((0 : Nat) : Int)) = [] := by
    rw [← List.length_eq_zero_iff, h, List.length_eq_zero_iff, List.filter_eq_nil_iff]
    intro x _; simp
  exact this
theorem place_any (hn : (cl L).length = n) (k : Nat) : (if n ≤ k then (rpart (cl L) 0 n).length else (rpart (cl L) 0 (back (cl L) k)).length) = (textOf (cl L)).place k := by
  by_cases h : n ≤ k
  · rw [if_pos h, place_over (by omega), hn]
  · rw [if_neg h, place_text (by omega)]
theorem place_neg {x : Tx} : x.place (-1) = 0 := by unfold Tx.place; rw [if_pos (.inl (by decide))]
theorem place_nil (hn : (cl L).length = n) : (if n ≤ 0 then (rpart (cl L) 0 n).length else (rpart (cl L) 0 (back (cl L) 0)).length) = 0 := by
  by_cases h : n ≤ 0
  · obtain rfl : n = 0 := by omega
    rw [if_pos h, show ((0 : Nat) : Int) = 0 from rfl, rpart_zero]; rfl
  · rw [if_neg h]
    show (rpart (cl L) 0 ((0 : Nat) : Int)).length = 0
    rw [show ((0 : Nat) : Int) = 0 from rfl, rpart_zero]; rfl
/-- Numbers of cells whose marks are not many. -/
def Few (L : List Cm) : Prop := ∀ m ∈ L, m.c.comb.length ≤ 600
theorem few_size (h : size (cl L) ≤ 600) : Few L := by
  intro m hm
  obtain ⟨k, hk⟩ := List.mem_iff_getElem?.1 hm
  have := size_take hk
  omega
theorem few_set {k : Nat} {m : Cm} (h : Few L) (hk : L[k]? = some m) (r : Int) : Few (L.set k ⟨⟨r, m.c.comb, m.c.wide⟩, m.ca, m.cc, m.fg, m.bg, m.fl⟩) := by
  intro y hy
  rcases List.mem_or_eq_of_mem_set hy with hy | rfl
  · exact h y hy
  · exact h m (List.mem_of_getElem? hk)
attribute [local irreducible] World.setCell World.setCells World.alloc World.drew World.drewN Calls sat cel own blk old wpQuiet wpList tx rowsS
set_option maxRecDepth 10000 in
theorem tell_great (hc : CS W H a n cp L) (hz : size (cl L) ≤ 2000000) (hg : 600 < size (cl L)) (fr to_ : Int) (hs : sat W H w) : Calls Try.prog 5 #[.slice a n cp, .int .i64 fr, .int .i64 to_] w fun e w' => e = .returned (.bool true) ∧ sat W H w' := by
  have HC := Lib.hid hc
  have HG := Lib.hid (show decide (600 < size (cl L)) = true by simpa using hg)
  have HZ := Lib.hid hz
  clear hc hg hz
  go_enter Try.func5, Try.ntmps5
  go_wp2_with (first | (go_at_call 7; refine (great_t HG.out HC.out HZ.out hs).mono ?_; clear hs; rintro e w ⟨rfl, hs⟩) | (go_at_call 8; refine (known8 hs).mono ?_; clear hs; rintro e w ⟨rfl, hs⟩) | ((with_reducible refine isl ?_); first | ((with_reducible refine wrap hs ?_); clear hs; intro w hs) | ((with_reducible refine wrapn hs ?_); clear hs; intro w hs) | ((with_reducible refine wrapd hs ?_); clear hs; intro w hs)))
  go_ret
  exact ⟨rfl, hs⟩
end Go.Proofs.Ytdbaiioeaffgaaa
