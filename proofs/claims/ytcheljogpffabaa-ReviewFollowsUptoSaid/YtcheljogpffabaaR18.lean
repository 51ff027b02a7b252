/- Law 21: the arguments: grids, commands. -/
import Derived.Test.YtcheljogpffabaaR17
namespace Go.Proofs.Ytcheljogpffabaa
open Go.RowKit Go.Mem Go.Words Go.Deep Go.Rev
section
variable {E : Type} {enc : TypeId × Value → E} {w : World}
theorem cells34' : Try.prog.cellsOf 34 = 12 := by kernel_rfl
theorem cells27' : Try.prog.cellsOf 27 = 1 := by kernel_rfl
theorem cells28' : Try.prog.cellsOf 28 = 1 := by kernel_rfl
theorem cells57' : Try.prog.cellsOf 57 = 1 := by kernel_rfl
theorem cells3' : Try.prog.cellsOf 3 = 1 := by kernel_rfl
theorem cells4' : Try.prog.cellsOf 4 = 1 := by kernel_rfl
theorem cells42' : Try.prog.cellsOf 42 = 3 := by kernel_rfl
theorem cells5' : Try.prog.cellsOf 5 = 1 := by kernel_rfl
/-- A row's reading. -/
def RowOk (w : World) (b : Nat) (r : Rw) : Prop := (∀ W H, CS W (old w :: H) r.a r.k r.c r.L) ∧ size (cl r.L) ≤ b
theorem row_rd {cs : List Value} {d : DataW E} (h : RdD enc Try.prog w 57 cs d) : ∃ r : Rw, cs = [r.v] ∧ RowOk w (Rows.uptoBulk d) r := by
  obtain ⟨a, n, c, rfl⟩ := rd_slices Try.underlying57 h.rd
  obtain ⟨L, hL, hz, _⟩ := cells_rd h
  exact ⟨⟨a, n, c, L⟩, rfl, hL, hz⟩
theorem rows_rd {a : Option Addr} {n c : Nat} {d : DataW E} (h : RdD enc Try.prog w 27 [.slice a n c] d) :
    ∃ R : List Rw, (∀ W H, SR 1 W (old w :: H) a n c (R.map fun r => [r.v])) ∧ ∀ r ∈ R, RowOk w (Rows.uptoBulk d) r := by
  obtain ⟨L, Ds, h1, h2, h3, h4, h5, h6, h7⟩ := rdd_slice Try.underlying27 cells57' (by decide) h
  obtain ⟨l, rfl⟩ : ∃ l : List {r : Rw // RowOk w (Rows.uptoBulk d) r}, L = l.map fun x => [x.1.v] := rd_map fun cs hcs => by
    obtain ⟨i, hi⟩ := List.mem_iff_getElem?.1 hcs
    have hlt : i < Ds.length := by rw [h2]; exact (List.getElem?_eq_some_iff.1 hi).1
    obtain ⟨r, hr, hok⟩ := row_rd (h5 i cs _ hi (List.getElem?_eq_getElem hlt))
    have hb := bulk_part (List.getElem_mem hlt)
    exact ⟨⟨r, hok.1, by have := hok.2; omega⟩, hr⟩
  have em : (l.map fun x => [x.1.v]) = (l.map (·.1)).map fun r : Rw => [r.v] := by rw [List.map_map]; rfl
  rw [em] at h1 h6
  refine ⟨l.map (·.1), fun W H => h6.sr h1 h3 h4 W H, fun r hr => ?_⟩
  obtain ⟨x, _, rfl⟩ := List.mem_map.1 hr
  exact x.2
theorem ints_rd {a : Option Addr} {n c : Nat} {d : DataW E} (h : RdD enc Try.prog w 28 [.slice a n c] d) :
    ∃ I : List Int, (∀ W H, SR 1 W (old w :: H) a n c (I.map fun i => [.int .i64 i])) := by
  obtain ⟨L, Ds, h1, h2, h3, h4, h5, h6, h7⟩ := rdd_slice Try.underlying28 cells3' (by decide) h
  obtain ⟨l, rfl⟩ : ∃ l : List Int, L = l.map fun x => [.int .i64 x] := rd_map fun cs hcs => by
    obtain ⟨i, hi⟩ := List.mem_iff_getElem?.1 hcs
    have hlt : i < Ds.length := by rw [h2]; exact (List.getElem?_eq_some_iff.1 hi).1
    obtain ⟨x, hx, _⟩ := rd_int Try.underlying3 (h5 i cs _ hi (List.getElem?_eq_getElem hlt)).rd
    exact ⟨x, hx⟩
  exact ⟨l, fun W H => h6.sr h1 h3 h4 W H⟩
/-- A grid's reading. -/
def GridOk (w : World) (b : Nat) (g : Gm) : Prop := (∀ W H, GS W (old w :: H) g) ∧ (∀ r ∈ g.gd.rows, size r ≤ b) ∧ (gV g).all (·.oneCell') = true
set_option maxRecDepth 20000 in
theorem grid_rd {cs : List Value} {d : DataW E} (h : RdD enc Try.prog w 34 cs d) : ∃ g : Gm, cs = gV g ∧ GridOk w (Rows.uptoBulk d) g := by
  obtain ⟨ds, hl, hb, hf⟩ := rdd_struct Try.underlying34 h
  rw [cells34'] at hl
  match cs, hl with
  | [c0, c1, c2, c3, c4, c5, c6, c7, c8, c9, c10, c11], _ =>
    obtain ⟨d0, hd0, f0⟩ := hf 0 _ rfl
    obtain ⟨d1, hd1, f1⟩ := hf 1 _ rfl
    obtain ⟨d2, _, f2⟩ := hf 2 _ rfl
    obtain ⟨d3, _, f3⟩ := hf 3 _ rfl
    have f0 : RdD enc Try.prog w 27 (([c0, c1, c2, c3, c4, c5, c6, c7, c8, c9, c10, c11].drop 0).take (Try.prog.cellsOf 27)) d0 := f0
    have f1 : RdD enc Try.prog w 28 (([c0, c1, c2, c3, c4, c5, c6, c7, c8, c9, c10, c11].drop 1).take (Try.prog.cellsOf 28)) d1 := f1
    have f2 : RdD enc Try.prog w 3 (([c0, c1, c2, c3, c4, c5, c6, c7, c8, c9, c10, c11].drop 2).take (Try.prog.cellsOf 3)) d2 := f2
    have f3 : RdD enc Try.prog w 3 (([c0, c1, c2, c3, c4, c5, c6, c7, c8, c9, c10, c11].drop 3).take (Try.prog.cellsOf 3)) d3 := f3
    obtain ⟨d4, _, f4⟩ := hf 4 _ rfl
    obtain ⟨d5, _, f5⟩ := hf 5 _ rfl
    obtain ⟨d6, _, f6⟩ := hf 6 _ rfl
    obtain ⟨d7, _, f7⟩ := hf 7 _ rfl
    obtain ⟨d8, _, f8⟩ := hf 8 _ rfl
    obtain ⟨d9, _, f9⟩ := hf 9 _ rfl
    have f4 : RdD enc Try.prog w 4 (([c0, c1, c2, c3, c4, c5, c6, c7, c8, c9, c10, c11].drop 4).take (Try.prog.cellsOf 4)) d4 := f4
    have f5 : RdD enc Try.prog w 4 (([c0, c1, c2, c3, c4, c5, c6, c7, c8, c9, c10, c11].drop 5).take (Try.prog.cellsOf 4)) d5 := f5
    have f6 : RdD enc Try.prog w 4 (([c0, c1, c2, c3, c4, c5, c6, c7, c8, c9, c10, c11].drop 6).take (Try.prog.cellsOf 4)) d6 := f6
    have f7 : RdD enc Try.prog w 3 (([c0, c1, c2, c3, c4, c5, c6, c7, c8, c9, c10, c11].drop 7).take (Try.prog.cellsOf 3)) d7 := f7
    have f8 : RdD enc Try.prog w 3 (([c0, c1, c2, c3, c4, c5, c6, c7, c8, c9, c10, c11].drop 8).take (Try.prog.cellsOf 3)) d8 := f8
    have f9 : RdD enc Try.prog w 32 (([c0, c1, c2, c3, c4, c5, c6, c7, c8, c9, c10, c11].drop 9).take (Try.prog.cellsOf 32)) d9 := f9
    rw [cells4'] at f4 f5 f6
    rw [cells3'] at f7 f8
    rw [cells34] at f9
    rw [cells27'] at f0
    rw [cells28'] at f1
    rw [cells3'] at f2 f3
    simp only [List.drop_zero, List.take_succ_cons, List.take_zero, List.drop_succ_cons] at f0 f1 f2 f3 f4 f5 f6 f7 f8 f9
    obtain ⟨a, n, c, e0⟩ := rd_slices Try.underlying27 f0.rd
    obtain ⟨a', n', c', e1⟩ := rd_slices Try.underlying28 f1.rd
    obtain ⟨y, e2, _⟩ := rd_int Try.underlying3 f2.rd
    obtain ⟨x, e3, _⟩ := rd_int Try.underlying3 f3.rd
    obtain ⟨b4, e4⟩ := rd_bool Try.underlying4 f4.rd
    obtain ⟨b5, e5⟩ := rd_bool Try.underlying4 f5.rd
    obtain ⟨b6, e6⟩ := rd_bool Try.underlying4 f6.rd
    obtain ⟨i7, e7, _⟩ := rd_int Try.underlying3 f7.rd
    obtain ⟨i8, e8, _⟩ := rd_int Try.underlying3 f8.rd
    obtain ⟨_, gg⟩ := rd_struct Try.underlying32 f9.rd
    have g0 : Rd enc Try.prog w 29 (([c9, c10, c11].drop 0).take (Try.prog.cellsOf 29)) := gg 0 _ rfl
    have g1 : Rd enc Try.prog w 29 (([c9, c10, c11].drop 1).take (Try.prog.cellsOf 29)) := gg 1 _ rfl
    have g2 : Rd enc Try.prog w 30 (([c9, c10, c11].drop 2).take (Try.prog.cellsOf 30)) := gg 2 _ rfl
    rw [cells31] at g0 g1
    rw [cells32] at g2
    simp only [List.drop_zero, List.take_succ_cons, List.take_zero, List.drop_succ_cons] at g0 g1 g2
    obtain ⟨i9, e9, _⟩ := rd_int Try.underlying29 g0
    obtain ⟨i10, e10, _⟩ := rd_int Try.underlying29 g1
    obtain ⟨i11, e11, _⟩ := rd_int Try.underlying30 g2
    cases e0; cases e1; cases e2; cases e3; cases e4; cases e5; cases e6; cases e7; cases e8; cases e9; cases e10; cases e11
    obtain ⟨R, hR, hRo⟩ := rows_rd f0
    obtain ⟨I, hI⟩ := ints_rd f1
    have hb0 := bulk_part (List.mem_of_getElem? hd0)
    refine ⟨⟨a, n, c, a', n', c', R, I, y, x, .bool b4, .bool b5, .bool b6, .int .i64 i7, .int .i64 i8, .int .u32 i9, .int .u32 i10, .int .u16 i11⟩, rfl, fun W H => ⟨hR W H, hI W H, fun r hr => (hRo r hr).1 W H⟩, fun r hr => ?_, rfl⟩
    obtain ⟨q, hq, rfl⟩ := List.mem_map.1 hr
    have := (hRo q hq).2
    omega
theorem grids_rd {a : Option Addr} {n c : Nat} {d : DataW E} (h : RdD enc Try.prog w 22 [.slice a n c] d) :
    ∃ G : List Gm, (∀ W H, SR 12 W (old w :: H) a n c (G.map gV)) ∧ ∀ g ∈ G, GridOk w (Rows.uptoBulk d) g := by
  obtain ⟨L, Ds, h1, h2, h3, h4, h5, h6, h7⟩ := rdd_slice Try.underlying22 cells34' (by decide) h
  obtain ⟨l, rfl⟩ : ∃ l : List {r : Gm // GridOk w (Rows.uptoBulk d) r}, L = l.map fun x => gV x.1 := rd_map fun cs hcs => by
    obtain ⟨i, hi⟩ := List.mem_iff_getElem?.1 hcs
    have hlt : i < Ds.length := by rw [h2]; exact (List.getElem?_eq_some_iff.1 hi).1
    obtain ⟨r, hr, hok⟩ := grid_rd (h5 i cs _ hi (List.getElem?_eq_getElem hlt))
    have hb := bulk_part (List.getElem_mem hlt)
    exact ⟨⟨r, hok.1, fun q hq => by have := hok.2.1 q hq; omega, hok.2.2⟩, hr⟩
  have em : (l.map fun x => gV x.1) = (l.map (·.1)).map gV := by rw [List.map_map]; rfl
  rw [em] at h1 h6
  refine ⟨l.map (·.1), fun W H => h6.sr h1 h3 h4 W H, fun r hr => ?_⟩
  obtain ⟨x, _, rfl⟩ := List.mem_map.1 hr
  exact x.2
/-- A command, or a holding. -/
structure Op where
  c : Nat
  g : Int
  h : Bool
abbrev opV (o : Op) : List Value := [.int .u8 o.c, .int .i64 o.g, .bool o.h]
set_option maxRecDepth 20000 in
theorem op_rd {cs : List Value} {d : DataW E} (h : RdD enc Try.prog w 42 cs d) : ∃ o : Op, cs = opV o ∧ o.c ≤ 255 ∧ (Lit.int .i64 o.g).wf = true := by
  obtain ⟨ds, hl, hb, hf⟩ := rdd_struct Try.underlying42 h
  rw [cells42'] at hl
  match cs, hl with
  | [c0, c1, c2], _ =>
    obtain ⟨d0, hd0, f0⟩ := hf 0 _ rfl
    obtain ⟨d1, hd1, f1⟩ := hf 1 _ rfl
    obtain ⟨d2, _, f2⟩ := hf 2 _ rfl
    have f0 : RdD enc Try.prog w 5 (([c0, c1, c2].drop 0).take (Try.prog.cellsOf 5)) d0 := f0
    have f1 : RdD enc Try.prog w 3 (([c0, c1, c2].drop 1).take (Try.prog.cellsOf 3)) d1 := f1
    have f2 : RdD enc Try.prog w 4 (([c0, c1, c2].drop 2).take (Try.prog.cellsOf 4)) d2 := f2
    rw [cells5'] at f0
    rw [cells3'] at f1
    rw [cells4'] at f2
    simp only [List.drop_zero, List.take_succ_cons, List.take_zero, List.drop_succ_cons] at f0 f1 f2
    obtain ⟨y, e0, hy⟩ := rd_int Try.underlying5 f0.rd
    obtain ⟨x, e1, hx⟩ := rd_int Try.underlying3 f1.rd
    obtain ⟨b, e2⟩ := rd_bool Try.underlying4 f2.rd
    cases e0; cases e1; cases e2
    have hy2 : 0 ≤ y ∧ y ≤ 255 := by
      simp [Lit.wf, IntKind.min, IntKind.max, IntKind.signed, IntKind.bits] at hy
      omega
    obtain ⟨k, rfl⟩ : ∃ k : Nat, y = k := ⟨y.toNat, by omega⟩
    exact ⟨⟨k, x, b⟩, rfl, by simp only; omega, hx⟩
theorem ops_rd {a : Option Addr} {n c : Nat} {d : DataW E} (h : RdD enc Try.prog w 23 [.slice a n c] d) :
    ∃ l : List Op, (∀ W H, SR 3 W (old w :: H) a n c (l.map opV)) ∧ ∀ o ∈ l, o.c ≤ 255 ∧ (Lit.int .i64 o.g).wf = true := by
  obtain ⟨L, Ds, h1, h2, h3, h4, h5, h6, h7⟩ := rdd_slice Try.underlying23 cells42' (by decide) h
  obtain ⟨l, rfl⟩ : ∃ l : List {r : Op // r.c ≤ 255 ∧ (Lit.int .i64 r.g).wf = true}, L = l.map fun x => opV x.1 := rd_map fun cs hcs => by
    obtain ⟨i, hi⟩ := List.mem_iff_getElem?.1 hcs
    have hlt : i < Ds.length := by rw [h2]; exact (List.getElem?_eq_some_iff.1 hi).1
    obtain ⟨r, hr, hok⟩ := op_rd (h5 i cs _ hi (List.getElem?_eq_getElem hlt))
    exact ⟨⟨r, hok⟩, hr⟩
  have em : (l.map fun x => opV x.1) = (l.map (·.1)).map opV := by rw [List.map_map]; rfl
  rw [em] at h1 h6
  refine ⟨l.map (·.1), fun W H => h6.sr h1 h3 h4 W H, fun r hr => ?_⟩
  obtain ⟨x, _, rfl⟩ := List.mem_map.1 hr
  exact x.2
end
end Go.Proofs.Ytcheljogpffabaa
