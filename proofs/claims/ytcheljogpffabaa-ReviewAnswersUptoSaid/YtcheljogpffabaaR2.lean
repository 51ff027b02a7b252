/- Law 21: a grid in memory. -/
import Derived.Test.YtcheljogpffabaaR1
import Derived.Test.YtcheljogpffabaaW24
namespace Go.Proofs.Ytcheljogpffabaa
open Go.RowKit Go.Mem Go.Words Go.Deep Go.Rev
variable {W w : World} {H : List HProp}
/-- A row of cells, where it lies. -/
structure Rw where
  a : Option Addr
  k : Nat
  c : Nat
  L : List Cm
abbrev Rw.v (r : Rw) : Value := .slice r.a r.k r.c
/-- A grid, where it lies. -/
structure Gm where
  aR : Option Addr
  n : Nat
  cR : Nat
  aI : Option Addr
  nI : Nat
  cI : Nat
  R : List Rw
  I : List Int
  cy : Int
  cx : Int
  v1 : Value
  v2 : Value
  v3 : Value
  v4 : Value
  v5 : Value
  v6 : Value
  v7 : Value
  v8 : Value
abbrev gV (g : Gm) : List Value := [.slice g.aR g.n g.cR, .slice g.aI g.nI g.cI, .int .i64 g.cy, .int .i64 g.cx, g.v1, g.v2, g.v3, g.v4, g.v5, g.v6, g.v7, g.v8]
def Gm.gd (g : Gm) : Gd := ⟨g.R.map fun r => cl r.L, g.I, g.cy, g.cx⟩
/-- It stands in every world that meets H. -/
structure GS (W : World) (H : List HProp) (g : Gm) : Prop where
  rows : SR 1 W H g.aR g.n g.cR (g.R.map fun r => [r.v])
  ids : SR 1 W H g.aI g.nI g.cI (g.I.map fun i => [.int .i64 i])
  each : ∀ r ∈ g.R, CS W H r.a r.k r.c r.L
variable {g : Gm} {n m : Nat}
theorem GS.mono {H' : List HProp} (h : GS W H g) (f : ∀ w', sat W H' w' → sat W H w') : GS W H' g := ⟨h.rows.mono f, h.ids.mono f, fun r hr => (h.each r hr).mono f⟩
theorem GS.more {A : HProp} (h : GS W H g) : GS W (A :: H) g := h.mono fun _ hs => hs.drop
theorem GS.lens (h : GS W H g) : g.n = g.R.length ∧ g.nI = g.I.length ∧ g.n ≤ g.cR ∧ g.nI ≤ g.cI := by
  have h1 := h.rows.len
  have h2 := h.ids.len
  rw [List.length_map] at h1 h2
  exact ⟨h1.1, h2.1, h1.2.1, h2.2.1⟩
theorem GS.gn (h : GS W H g) : g.gd.rows.length = g.n ∧ g.gd.ids.length = g.nI := by
  obtain ⟨h1, h2, _⟩ := h.lens
  exact ⟨by unfold Gm.gd; simp [h1], h2.symm⟩
theorem GS.row (h : GS W H g) (hs : sat W H w) {y : Nat} (hy : y < g.n) : ∃ r, g.R[y]? = some r ∧ g.gd.row y = cl r.L ∧ r ∈ g.R ∧ ∃ b off, g.aR = some ⟨b, off, none⟩ ∧ ∀ w', sat W H w' → w'.cell? ⟨b, off + y, none⟩ = some r.v := by
  obtain ⟨r, hr, b, off, e, hc⟩ := h.rows.getb (f := fun r : Rw => r.v) hs hy
  exact ⟨r, hr, by unfold Gd.row Gm.gd; simp [hr], List.mem_of_getElem? hr, b, off, e, hc⟩
theorem GS.id (h : GS W H g) (hs : sat W H w) {y : Nat} (hy : y < g.nI) : g.I[y]? = some (g.gd.id y) ∧ ∃ b off, g.aI = some ⟨b, off, none⟩ ∧ ∀ w', sat W H w' → w'.cell? ⟨b, off + y, none⟩ = some (.int .i64 (g.gd.id y)) := by
  obtain ⟨r, hr, b, off, e, hc⟩ := h.ids.getb (f := fun r : Int => .int .i64 r) hs hy
  have e2 : g.gd.id y = r := by unfold Gd.id Gm.gd; simp [hr]
  rw [e2]
  exact ⟨hr, b, off, e, hc⟩
/-- The cell at a column of a row. -/
theorem row_cell {r : Rw} (h : CS W H r.a r.k r.c r.L) (hs : sat W H w) {x : Nat} (hx : x < r.k) : ∃ q, r.L[x]? = some q ∧ ∃ b off, r.a = some ⟨b, off, none⟩ ∧ ∀ w', sat W H w' → w'.rangeAt b (off + x * 6) (cmV q) := h.1.getm (f := cmV) hs hx
theorem wd_of {r : Rw} {y x : Nat} {q : Cm} (h : g.gd.row y = cl r.L) (hq : r.L[x]? = some q) : g.gd.wd y x = q.c.wide := by
  unfold Gd.wd
  unfold Gd.row at h
  rw [h]
  simp [cl, hq]
theorem GS.rk (hg : GS W H g) (hF : Fit g.gd n m) {y : Nat} {r : Rw} (hr : g.R[y]? = some r) (e : g.gd.row y = cl r.L) : r.k = m := by
  have h1 := (hg.each r (List.mem_of_getElem? hr)).len.1
  have hy : y < n := by
    have := (List.getElem?_eq_some_iff.1 hr).1
    rw [← hF.en]
    unfold Gm.gd
    simpa using this
  have h2 := hF.row_len hy
  rw [e] at h2
  simp [cl] at h2
  omega
theorem GS.n_eq (hg : GS W H g) (hF : Fit g.gd n m) : g.n = n ∧ g.nI = n := by
  have h1 := hg.gn
  exact ⟨h1.1.symm.trans hF.en, h1.2.symm.trans hF.ei⟩
/-- A row, where it lies, and how wide its cells are. -/
theorem GS.at_ (hg : GS W H g) (hF : Fit g.gd n m) (hs : sat W H w) {y : Nat} (hy : y < n) : ∃ b off bq oq c L, g.aR = some ⟨b, off, none⟩ ∧ (∀ w', sat W H w' → w'.cell? ⟨b, off + y, none⟩ = some (.slice (some ⟨bq, oq, none⟩) m c)) ∧
    (∀ x, x < m → ∀ w', sat W H w' → w'.cell? ⟨bq, oq + x * 6 + 2, none⟩ = some (.int .u8 (g.gd.wd y x))) ∧ CS W H (some ⟨bq, oq, none⟩) m c L ∧ g.gd.row y = cl L ∧ size (cl L) ≤ 600 := by
  obtain ⟨r, hr, er, hrm, b, off, eb, hc⟩ := hg.row hs (y := y) (by rw [(hg.n_eq hF).1]; exact hy)
  have k1 := hg.rk hF hr er
  have hrow := hg.each r hrm
  obtain ⟨a, k, c, L⟩ := r
  simp only at k1
  subst k1
  obtain ⟨q, hq, bq, oq, eq, hcq⟩ := row_cell hrow hs hF.m1
  simp only at eq
  subst eq
  refine ⟨b, off, bq, oq, c, L, eb, hc, fun x hx w' hw => ?_, hrow, er, by rw [← er]; exact hF.row_size hy⟩
  obtain ⟨q', hq', b2, o2, e2, h2⟩ := row_cell hrow hs hx
  cases e2
  rw [wd_of er hq']
  exact (h2 w' hw) 2 _ rfl
/-- What is asked, in memory. -/
abbrev akL (g : Gm) (y x : Nat) (e : Bool) (s : Nat) : List Value := [.slice g.aR g.n g.cR, .slice g.aI g.nI g.cI, .int .i64 g.cy, .int .i64 g.cx, g.v1, g.v2, g.v3, g.v4, g.v5, g.v6, g.v7, g.v8, .int .i64 y, .int .i64 x, .bool e, .int .i64 s]
/-- Where a command has led. -/
def aft (y x : Nat) : Option (Nat × Nat) → Nat × Nat × Bool
  | some p => (p.1, p.2, false)
  | none => (y, x, true)
/-- The review, in memory. -/
abbrev plL (v : Pl) : List Value := [.int .i64 v.id, .int .i64 v.y, .int .i64 v.x]
theorem row34 : rowTy Try.prog 34 12 = true := by kernel_rfl
theorem row63 : rowTy Try.prog 63 2 = true := by kernel_rfl
theorem row65 : rowTy Try.prog 65 3 = true := by kernel_rfl
theorem row78 : rowTy Try.prog 78 16 = true := by kernel_rfl
theorem row49 : rowTy Try.prog 49 6 = true := by kernel_rfl
theorem one5 : oneTy Try.prog 5 = true := by kernel_rfl
theorem one57 : oneTy Try.prog 57 = true := by kernel_rfl
theorem one28 : oneTy Try.prog 28 = true := by kernel_rfl
end Go.Proofs.Ytcheljogpffabaa
