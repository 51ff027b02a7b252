/- Law 20: the cells that come in; whether they are many. -/
import Derived.Test.YtcheljogpffabaaW10
import Derived.Test.YtcheljogpffabaaW13
namespace Go.Proofs.Ytcheljogpffabaa
open Go.RowKit Go.Mem Go.Words Go.Deep
variable {W w : World} {H : List HProp}
section
variable {E : Type} {enc : TypeId × Value → E}
theorem cells36 : Try.prog.cellsOf 60 = 6 := by kernel_rfl
theorem cells34 : Try.prog.cellsOf 32 = 3 := by kernel_rfl
theorem cells31 : Try.prog.cellsOf 29 = 1 := by kernel_rfl
theorem cells32 : Try.prog.cellsOf 30 = 1 := by kernel_rfl
theorem cells27 : Try.prog.cellsOf 47 = 1 := by kernel_rfl
theorem cells21 : Try.prog.cellsOf 21 = 1 := by kernel_rfl
theorem cells5 : Try.prog.cellsOf 5 = 1 := by kernel_rfl
theorem comb_rd {w : World} {v : Value} {d : DataW E} (h : RdD enc Try.prog w 47 [v] d) : ∃ a c l, v = .slice a l.length c ∧ Reads w (.slice a l.length c) (i32s l) ∧ l.length + 1 ≤ Rows.uptoBulk d ∧ l.length ≤ c ∧ c ≤ maxLen ∧ ∀ x ∈ l, (Lit.int .i32 x).wf = true := by
  obtain ⟨a, n, c, hv⟩ := rd_slices Try.underlying47 h.rd
  cases hv
  obtain ⟨L, Ds, h1, h2, h3, h4, h5, h6, h7⟩ := rdd_slice Try.underlying47 cells21 (by decide) h
  obtain ⟨l, rfl⟩ : ∃ l : List {x : Int // (Lit.int .i32 x).wf = true}, L = l.map fun x => [.int .i32 x.1] := rd_map (f := fun x : {x : Int // (Lit.int .i32 x).wf = true} => [.int .i32 x.1]) fun cs hcs => by
    obtain ⟨i, hi⟩ := List.mem_iff_getElem?.1 hcs
    have hlt : i < Ds.length := by rw [h2]; exact (List.getElem?_eq_some_iff.1 hi).1
    obtain ⟨x, hx, hw⟩ := rd_int Try.underlying21 (h5 i cs _ hi (List.getElem?_eq_getElem hlt)).rd
    exact ⟨⟨x, hw⟩, hx⟩
  have hn : n = (l.map (·.1)).length := by rw [h1]; simp
  refine ⟨a, c, l.map (·.1), by rw [hn], ⟨by simp only [List.length_map] at *; omega, a, c, by simp, fun hne => ?_⟩, ?_, by rw [← hn]; exact h3, h4, fun x hx => ?_⟩
  · have hp : 0 < l.length := by
      cases l with
      | nil => exact (hne rfl).elim
      | cons _ _ => simp
    obtain ⟨_, b, off, e, _⟩ := h6 0 _ (by rw [List.getElem?_map, List.getElem?_eq_getElem hp]; rfl)
    refine ⟨b, off, e, fun i u hu => ?_⟩
    have hi : i < l.length := by have := (List.getElem?_eq_some_iff.1 hu).1; simpa using this
    obtain ⟨_, b2, off2, e2, h8⟩ := h6 i _ (by rw [List.getElem?_map, List.getElem?_eq_getElem hi]; rfl)
    rw [e] at e2
    cases e2
    have h9 := h8 0 _ rfl
    rw [Nat.mul_one, Nat.add_zero] at h9
    rw [h9, ← hu]
    simp [hi]
  · have := bulk_len Ds
    rw [← hn, h1, ← h2]; omega
  · obtain ⟨y, _, rfl⟩ := List.mem_map.1 hx
    exact y.2
set_option maxRecDepth 20000 in
theorem cell_rd {w : World} {cs : List Value} {d : DataW E} (h : RdD enc Try.prog w 60 cs d) :
    ∃ m : Cm, cs = cmV m ∧ 1 + m.c.comb.length ≤ Rows.uptoBulk d ∧ Reads w (.slice m.ca m.c.comb.length m.cc) (i32s m.c.comb) ∧ m.c.comb.length ≤ m.cc ∧ m.cc ≤ maxLen ∧ (Lit.int .i32 m.c.r).wf = true ∧ (Lit.int .u8 m.c.wide).wf = true ∧ ∀ x ∈ m.c.comb, (Lit.int .i32 x).wf = true := by
  obtain ⟨ds, hl, hb, hf⟩ := rdd_struct Try.underlying60 h
  rw [cells36] at hl
  match cs, hl with
  | [c0, c1, c2, c3, c4, c5], _ =>
    obtain ⟨d0, _, f0⟩ := hf 0 _ rfl
    obtain ⟨d1, hd1, f1⟩ := hf 1 _ rfl
    obtain ⟨d2, _, f2⟩ := hf 2 _ rfl
    obtain ⟨d3, _, f3⟩ := hf 3 _ rfl
    have f0 : RdD enc Try.prog w 21 (([c0, c1, c2, c3, c4, c5].drop 0).take (Try.prog.cellsOf 21)) d0 := f0
    have f1 : RdD enc Try.prog w 47 (([c0, c1, c2, c3, c4, c5].drop 1).take (Try.prog.cellsOf 47)) d1 := f1
    have f2 : RdD enc Try.prog w 5 (([c0, c1, c2, c3, c4, c5].drop 2).take (Try.prog.cellsOf 5)) d2 := f2
    have f3 : RdD enc Try.prog w 32 (([c0, c1, c2, c3, c4, c5].drop 3).take (Try.prog.cellsOf 32)) d3 := f3
    rw [cells21] at f0
    rw [cells27] at f1
    rw [cells5] at f2
    rw [cells34] at f3
    obtain ⟨r, e0, w0⟩ := rd_int Try.underlying21 f0.rd
    obtain ⟨a, c, l, e1, hr, hlen, hle, hm, hw⟩ := comb_rd f1
    obtain ⟨wd, e2, w2⟩ := rd_int Try.underlying5 f2.rd
    obtain ⟨_, g⟩ := rd_struct Try.underlying32 f3.rd
    have g0 : Rd enc Try.prog w 29 (([c3, c4, c5].drop 0).take (Try.prog.cellsOf 29)) := g 0 _ rfl
    have g1 : Rd enc Try.prog w 29 (([c3, c4, c5].drop 1).take (Try.prog.cellsOf 29)) := g 1 _ rfl
    have g2 : Rd enc Try.prog w 30 (([c3, c4, c5].drop 2).take (Try.prog.cellsOf 30)) := g 2 _ rfl
    rw [cells31] at g0 g1
    rw [cells32] at g2
    obtain ⟨fg, e3, _⟩ := rd_int Try.underlying29 g0
    obtain ⟨bg, e4, _⟩ := rd_int Try.underlying29 g1
    obtain ⟨fl, e5, _⟩ := rd_int Try.underlying30 g2
    simp only [List.drop_zero, List.take_succ_cons, List.take_zero, List.drop_succ_cons, List.cons.injEq, and_true] at e0 e2 e3 e4 e5
    have hbp := bulk_part (List.mem_of_getElem? hd1)
    exact ⟨⟨⟨r, l, wd⟩, a, c, fg, bg, fl⟩, by rw [e0, e1, e2, e3, e4, e5], by simp only; omega, hr, hle, hm, w0, w2, hw⟩
theorem cells_rd {w : World} {a : Option Addr} {n c : Nat} {d : DataW E} (h : RdD enc Try.prog w 57 [.slice a n c] d) :
    ∃ L : List Cm, (∀ W H, CS W (old w :: H) a n c L) ∧ size (cl L) ≤ Rows.uptoBulk d ∧ ∀ m ∈ L, m.c.comb.length ≤ m.cc ∧ m.cc ≤ maxLen ∧ (Lit.int .i32 m.c.r).wf = true ∧ (Lit.int .u8 m.c.wide).wf = true ∧ ∀ x ∈ m.c.comb, (Lit.int .i32 x).wf = true := by
  obtain ⟨L, Ds, h1, h2, h3, h4, h5, h6, h7⟩ := rdd_slice Try.underlying57 cells36 (by decide) h
  obtain ⟨l, rfl⟩ : ∃ l : List {m : Cm // Reads w (.slice m.ca m.c.comb.length m.cc) (i32s m.c.comb) ∧ m.c.comb.length ≤ m.cc ∧ m.cc ≤ maxLen ∧ (Lit.int .i32 m.c.r).wf = true ∧ (Lit.int .u8 m.c.wide).wf = true ∧ ∀ x ∈ m.c.comb, (Lit.int .i32 x).wf = true}, L = l.map fun x => cmV x.1 := rd_map fun cs hcs => by
    obtain ⟨i, hi⟩ := List.mem_iff_getElem?.1 hcs
    have hlt : i < Ds.length := by rw [h2]; exact (List.getElem?_eq_some_iff.1 hi).1
    obtain ⟨m, hm, _, hr⟩ := cell_rd (h5 i cs _ hi (List.getElem?_eq_getElem hlt))
    exact ⟨⟨m, hr⟩, hm⟩
  have em : (l.map (fun x => cmV x.1)) = (l.map (·.1)).map cmV := by rw [List.map_map]; rfl
  refine ⟨l.map (·.1), fun W H => ⟨?_, ?_⟩, ?_, ?_⟩
  · rw [em] at h6 h1
    exact h6.sr h1 h3 h4 W H
  · intro m hm w' hs
    obtain ⟨x, _, rfl⟩ := List.mem_map.1 hm
    exact hs.old_reads x.2.1
  · have := bulk_rows (f := fun cs : List Value => match cs with | [_, .slice _ k _, _, _, _, _] => 1 + k | _ => 0) (R := fun cs d => RdD enc Try.prog w 60 cs d) (fun cs d hR => by
      obtain ⟨m, rfl, hb, _⟩ := cell_rd hR
      exact hb) (l.map fun x => cmV x.1) Ds h2.symm h5
    have e : size (cl (l.map (·.1))) = ((l.map fun x => cmV x.1).map (fun cs : List Value => match cs with | [_, .slice _ k _, _, _, _, _] => 1 + k | _ => 0)).sum := by
      unfold size cl
      rw [List.map_map, List.map_map, List.map_map]
      rfl
    rw [e]; omega
  · intro m hm
    obtain ⟨x, _, rfl⟩ := List.mem_map.1 hm
    exact x.2.2
end
theorem size_take_eq {L : List Cm} {k : Nat} {m : Cm} (h : L[k]? = some m) : size (cl (L.take (k + 1))) = size (cl (L.take k)) + 1 + m.c.comb.length := by
  have hk := (List.getElem?_eq_some_iff.1 h).1
  rw [List.take_succ_eq_append_getElem hk, cl, List.map_append, List.map_cons, List.map_nil, size_append, (List.getElem?_eq_some_iff.1 h).2]
  simp [size]; omega
attribute [local irreducible] World.setCell World.setCells World.alloc World.drew World.drewN Calls sat cel own blk old wpQuiet wpList tx
set_option maxHeartbeats 1000000 in
theorem great7 {a : Option Addr} {n cp : Nat} {L : List Cm} (hc : CS W H a n cp L) (hz : size (cl L) ≤ 2000000) (hs : sat W H w) : Calls Try.prog 20 #[.slice a n cp] w fun e w' => e = .returned (.bool (decide (600 < size (cl L)))) ∧ sat W H w' := by
  have HN := Lib.hid hc.len.1
  have HC := Lib.hid hc
  have HZ := Lib.hid hz
  have hn : n ≤ 2000000 := by have h1 := hc.len.1; have := len_size (cl L); rw [List.length_map] at this; omega
  clear hc hz
  go_enter Try.func20, Try.ntmps20
  go_wp2
  go_loopw [3, 4] (fun s3 i wr => ∃ k z : Nat, k ≤ n ∧ i = .int .i64 (k : Int) ∧ s3 = .int .i64 (z : Int) ∧ z ≤ 2000000 ∧ Hid (z = size (cl (L.take k))) ∧ sat W H wr) (fun _ i _ => ((n : Int) - intOf i).toNat)
  case atStart => exact ⟨0, 0, Nat.zero_le _, rfl, rfl, Nat.zero_le _, Lib.hid rfl, hs⟩
  case round =>
    clear hs
    obtain ⟨k, z, hk, rfl, rfl, hz, HZ2, hs⟩ := hrel
    by_cases hlt : k < n
    · obtain ⟨m, hm, b, off, rfl, hcc⟩ := HC.out.1.getm hs hlt
      have HCC := Lib.hid hcc
      have HS := Lib.hid (size_take_eq hm)
      have hb := size_take hm
      have hb2 : z + 1 + m.c.comb.length ≤ 2000000 := by have := HZ.out; have := HZ2.out; omega
      clear hcc hm hb
      go_wp2_with (first | (apply ldc; exact rfl; exact rfl; exact rfl; exact HCC.out _ hs 1 _ rfl; kernel_rfl) | ((with_reducible refine isl ?_); first | ((with_reducible refine wrap hs ?_); clear hs; intro w hs) | ((with_reducible refine wrapn hs ?_); clear hs; intro w hs) | ((with_reducible refine wrapd hs ?_); clear hs; intro w hs)))
      go_roundw
      case rel => exact ⟨k + 1, z + 1 + m.c.comb.length, hlt, by go_num, by go_num, hb2, Lib.hid (by rw [HS.out, HZ2.out]), hs⟩
      case measure => simp [intOf]; omega
    · obtain rfl : k = n := by omega
      have HE : Hid (z = size (cl L)) := Lib.hid (by have := HZ2.out; rwa [List.take_of_length_le (by have := HN.out; omega)] at this)
      by_cases hg : 600 < z
      · have hd : Hid (decide (600 < size (cl L)) = true) := Lib.hid (by rw [← HE.out]; simpa using hg)
        go_wp2
        go_ret
        exact ⟨by rw [hd.out]; simp; omega, hs⟩
      · have hd : Hid (decide (600 < size (cl L)) = false) := Lib.hid (by rw [← HE.out]; simpa using hg)
        go_wp2
        go_ret
        exact ⟨by rw [hd.out]; simp; omega, hs⟩
end Go.Proofs.Ytcheljogpffabaa
