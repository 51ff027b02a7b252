import Derived.Test.YtdbhgjkdblhhkaaP17
import Derived.Test.YtdbhgjkdblhhkaaSe
namespace Go.Proofs.Ytdbhgjkdblhhkaa
open Go.RowKit Go.Mem
variable {W w : World} {H : List HProp}
/-- A row of cells that came in. -/
structure Row where
  a : Option Addr
  n : Nat
  c : Nat
  cells : List Int
def Row.ok (w0 : World) (r : Row) : Prop := RdC [old w0] r.a r.n r.c r.cells ∧ (∀ x ∈ r.cells, 0 ≤ x ∧ x < 256) ∧ r.n = r.cells.length ∧ r.n ≤ maxLen
abbrev rowV (r : Row) : Value := .slice r.a r.n r.c
theorem RdC.all {Hc : List HProp} {a : Option Addr} {n c : Nat} {cells : List Int} (h : RdC Hc a n c cells) (hs : sat W Hc w) : Reads w (.slice a n c) (bytesV cells) := by
  obtain ⟨h1, h2⟩ := h.len hs
  subst h1
  refine ⟨by simpa using h2, a, c, by simp, fun hne => ?_⟩
  have hp : 0 < cells.length := by
    cases cells with
    | nil => exact absurd rfl hne
    | cons _ _ => simp
  obtain ⟨b, o, rfl, _⟩ := h.cell hs hp
  refine ⟨b, o, rfl, fun i u hu => ?_⟩
  have hi : i < cells.length := by
    have := (List.getElem?_eq_some_iff.1 hu).1
    simpa using this
  obtain ⟨b2, o2, e, hc⟩ := h.cell hs hi
  cases e
  rw [hc, ← hu, List.getD_eq_getElem?_getD]
  simp [hi]
theorem bytesV_flat : ∀ l : List Int, bytesV l = (l.map fun x => [Value.int .u8 x]).flatten
  | [] => rfl
  | x :: l => by
    have ih := bytesV_flat l
    show Value.int .u8 x :: bytesV l = [Value.int .u8 x] ++ (l.map fun x => [Value.int .u8 x]).flatten
    rw [ih]; rfl
theorem rdc_own {ad : Option Addr} {n c : Nat} {cells : List Int} : RdC [own 5 1 (.slice ad n c) n (bytesV cells)] ad n c cells := fun W0 w' hs => by
  have e := bytesV_flat cells
  rw [e] at hs ⊢
  exact SR.of_own hs (by decide) fun r hr => by
    obtain ⟨x, _, rfl⟩ := List.mem_map.1 hr
    rfl
section
variable {E : Type} {enc : TypeId × Value → E}
theorem cells22 : Try.prog.cellsOf 22 = 1 := by kernel_rfl
theorem cells46 : Try.prog.cellsOf 46 = 3 := by kernel_rfl
theorem cells3 : Try.prog.cellsOf 3 = 1 := by kernel_rfl
theorem rd_rows {w : World} {a : Option Addr} {n c : Nat} (h : Rd enc Try.prog w 39 [.slice a n c]) : ∃ R : List Row, (∀ r ∈ R, r.ok w) ∧ n = R.length ∧ ∀ (W : World) (H : List HProp), SR 1 W (old w :: H) a n c (R.map fun r => [rowV r]) := by
  obtain ⟨L, h1, h2, h3, h4, h5⟩ := rd_slice Try.underlying39 cells22 (by decide) h
  obtain ⟨l, hl⟩ := rd_map (f := fun r : {r : Row // r.ok w} => [rowV r.1]) fun cs hc => by
    have hr := h4 cs hc
    obtain ⟨a, n, c, rfl⟩ := rd_slices Try.underlying22 hr
    obtain ⟨cells, k1, k2, k3, k4⟩ := rdc_arg hr
    exact ⟨⟨⟨a, n, c, cells⟩, k1, k2, k3, k4⟩, rfl⟩
  have hl2 : L = (l.map (·.1)).map fun r => [rowV r] := by rw [hl, List.map_map]; rfl
  rw [hl2] at h1 h5
  refine ⟨l.map (·.1), fun r hr => ?_, by simpa using h1, fun W H => h5.sr h1 h2 h3 W H⟩
  obtain ⟨y, _, rfl⟩ := List.mem_map.1 hr
  exact y.2
structure Opn where
  kind : Int
  nn : Int
  cell : Int
abbrev opL (e : Opn) : List Value := [.int .i64 e.kind, .int .i64 e.nn, .int .i64 e.cell]
def Opn.ok (e : Opn) : Prop := (Lit.int .i64 e.nn).wf = true ∧ (Lit.int .i64 e.cell).wf = true
theorem rd_ops {w : World} {a : Option Addr} {n c : Nat} (h : Rd enc Try.prog w 40 [.slice a n c]) : ∃ l : List Opn, (∀ e ∈ l, e.ok) ∧ n = l.length ∧ ∀ (W : World) (H : List HProp), SR 3 W (old w :: H) a n c (l.map opL) := by
  obtain ⟨L, h1, h2, h3, h4, h5⟩ := rd_slice Try.underlying40 cells46 (by decide) h
  obtain ⟨l, hl⟩ := rd_map (f := fun e : {e : Opn // e.ok} => opL e.1) fun cs hc => by
    obtain ⟨hlen, hf⟩ := rd_struct Try.underlying46 (h4 cs hc)
    rw [cells46] at hlen
    match cs, hlen with
    | [c0, c1, c2], _ =>
      have f0 : Rd enc Try.prog w 3 (([c0, c1, c2].drop 0).take (Try.prog.cellsOf 3)) := hf 0 _ rfl
      have f1 : Rd enc Try.prog w 3 (([c0, c1, c2].drop 1).take (Try.prog.cellsOf 3)) := hf 1 _ rfl
      have f2 : Rd enc Try.prog w 3 (([c0, c1, c2].drop 2).take (Try.prog.cellsOf 3)) := hf 2 _ rfl
      rw [cells3] at f0 f1 f2
      obtain ⟨k, e0, _⟩ := rd_int Try.underlying3 f0
      obtain ⟨nn, e1, w1⟩ := rd_int Try.underlying3 f1
      obtain ⟨ce, e2, w2⟩ := rd_int Try.underlying3 f2
      simp at e0 e1 e2
      subst e0 e1 e2
      exact ⟨⟨⟨k, nn, ce⟩, w1, w2⟩, rfl⟩
  have hl2 : L = (l.map (·.1)).map opL := by rw [hl, List.map_map]; rfl
  rw [hl2] at h1 h5
  refine ⟨l.map (·.1), fun r hr => ?_, by simpa using h1, fun W H => h5.sr h1 h2 h3 W H⟩
  obtain ⟨y, _, rfl⟩ := List.mem_map.1 hr
  exact y.2
end
attribute [local irreducible] World.setCell World.setCells World.alloc World.drew World.drewN Calls sat cel own blk old wpQuiet wpList
set_option maxRecDepth 8000 in
theorem plays_no (x : Int) (v u : Value) (hx : x < 1 ∨ 80 < x) (hs : sat W H w) : Calls Try.prog 6 #[.int .i64 x, v, u] w fun e w' => e = .returned (.bool true) ∧ sat W H w' := by
  have hd : decide (1 ≤ x ∧ x ≤ 80) = false := by simp; omega
  go_enter Try.func6, Try.ntmps6
  go_wp2_with (first | (go_at_call 8; refine (known8 hs).mono ?_; clear hs; rintro e w ⟨rfl, hs⟩) | (go_at_call 10; refine (new_no hx hs).mono ?_; clear hs; rintro e w ⟨rfl, hs⟩) | (go_at_call 7; refine (may7 _ _).mono ?_; rintro e w ⟨rfl, rfl⟩; rw [hd]) | (go_at_call 9; refine (begins_no hx hs).mono ?_; clear hs; rintro e w ⟨rfl, hs⟩))
  go_ret
  exact ⟨rfl, hs⟩
set_option maxRecDepth 8000 in
theorem plays_guard {wd : Nat} (hw : 0 < wd) (hw2 : wd ≤ 80) (a : Option Addr) (n c : Nat) (a2 : Option Addr) (n2 c2 : Nat) (hc : n ≤ maxLen) (hc2 : n2 ≤ maxLen) (h : n < 1 ∨ 5 < n ∨ 60 < n2) (hs : sat W H w) : Calls Try.prog 6 #[.int .i64 (wd : Nat), .slice a n c, .slice a2 n2 c2] w fun e w' => e = .returned (.bool true) ∧ sat W H w' := by
  have hd : decide (1 ≤ (wd : Int) ∧ (wd : Int) ≤ 80) = true := by simp; omega
  unfold maxLen at hc hc2
  have KA := Lib.hid (show ∀ (H : List HProp) (w : World), sat W H w → Calls Try.prog 8 #[] w fun e w' => e = .returned (.bool true) ∧ sat W H w' from fun H w hs => known8 hs)
  by_cases h1 : n < 1
  · clear h
    go_enter Try.func6, Try.ntmps6
    go_wp2_with (first | (go_at_call 8; refine (known8 hs).mono ?_; clear hs; rintro e w ⟨rfl, hs⟩) | (go_at_call 10; refine (new10 hw hw2 hs).mono ?_; clear hs; rintro e w ⟨b, rfl, hs⟩) | (go_at_call 7; refine (may7 _ _).mono ?_; rintro e w ⟨rfl, rfl⟩; rw [hd]))
    go_ret
    exact ⟨rfl, hs.drop⟩
  · by_cases h2 : 5 < n
    · clear h
      go_enter Try.func6, Try.ntmps6
      go_wp2_with (first | (go_at_call 8; refine (known8 hs).mono ?_; clear hs; rintro e w ⟨rfl, hs⟩) | (go_at_call 10; refine (new10 hw hw2 hs).mono ?_; clear hs; rintro e w ⟨b, rfl, hs⟩) | (go_at_call 7; refine (may7 _ _).mono ?_; rintro e w ⟨rfl, rfl⟩; rw [hd]))
      go_ret
      exact ⟨rfl, hs.drop⟩
    · have h3 : 60 < n2 := by omega
      clear h
      go_enter Try.func6, Try.ntmps6
      go_wp2_with (first | (go_at_call 8; refine (known8 hs).mono ?_; clear hs; rintro e w ⟨rfl, hs⟩) | (go_at_call 10; refine (new10 hw hw2 hs).mono ?_; clear hs; rintro e w ⟨b, rfl, hs⟩) | (go_at_call 7; refine (may7 _ _).mono ?_; rintro e w ⟨rfl, rfl⟩; rw [hd]))
      go_ret
      exact ⟨rfl, hs.drop⟩
end Go.Proofs.Ytdbhgjkdblhhkaa
