import Derived.Test.YtninmdoeippcgaaM5
namespace Go.Proofs.Ytninmdoeippcgaa
open Go.RowKit Go.Mem Go.Modes Go.Maps
variable {W w : World} {H : List HProp}
theorem ret_cellt {P : Program} {fn : Func} {R : Ending → World → Prop} {W w : World} {H : List HProp} {a : Act} {b : Nat} {T ty : TypeId} {l : List Value} {t k : Tmp} {v : Value} (hs : sat W (cel b T l :: H) w)
    (hr : fn.results = #[.cell t ty, .tmp k]) (hd : a.defers = []) (hx : a.eval (.tmp t) = .pointer (some ⟨b, 0, none⟩)) (hk : a.eval (.tmp k) = v) (ht : rowTy P ty l.length = true)
    (h : R (.returned (.tuple #[.agg l.toArray, v])) w) : bodyPost P fn R .ret a w := by
  obtain ⟨d, h1, h2, h3⟩ := rowTy_parts ht
  refine ⟨hd, .tuple #[.agg l.toArray, v], ?_, h⟩
  have hx' : a.tmps[t]?.getD undef = .pointer (some ⟨b, 0, none⟩) := by rw [← Array.getD_eq_getD_getElem?]; exact hx
  have hk' : a.tmps[k]?.getD undef = v := by rw [← Array.getD_eq_getD_getElem?]; exact hk
  have hl := run_loadVar_mid (P := P) w b 0 ty l d (hs.cel_range (i := 0) (n := l.length) (by simp)) h1 h2 h3
  unfold results
  simp [hr, hx', hk', hl, asAddr]
theorem mset (m : M) (i : Nat) (h : i < 8) (on : Bool) : (mL m).set i (.bool on) = mL (m.set i on) := by
  rcases (by omega : i = 0 ∨ i = 1 ∨ i = 2 ∨ i = 3 ∨ i = 4 ∨ i = 5 ∨ i = 6 ∨ i = 7) with rfl | rfl | rfl | rfl | rfl | rfl | rfl | rfl <;> rfl
theorem bit_bd : ∀ m : M, ∀ i < 8, (m.get i = true → 2 ^ i ≤ Modes.bits m) ∧ (m.get i = false → Modes.bits m + 2 ^ i ≤ 255) := allM (by decide +kernel)
theorem bit_geti (m : M) (i : Nat) (h : i < 8) : ((Modes.bits m : Int) / ((2 ^ i : Nat) : Int) % 2 == 1) = m.get i := by
  rw [← bit_get m i h, Bool.eq_iff_iff]
  simp only [beq_iff_eq]
  rw [← Int.natCast_ediv]
  omega
theorem pow8 (i : Nat) (h : i < 8) : 0 < 2 ^ i ∧ 2 ^ i ≤ 128 := by
  rcases (by omega : i = 0 ∨ i = 1 ∨ i = 2 ∨ i = 3 ∨ i = 4 ∨ i = 5 ∨ i = 6 ∨ i = 7) with rfl | rfl | rfl | rfl | rfl | rfl | rfl | rfl <;> decide
theorem get_none {m : M} {p : Bool} {n : Int} (h : place p n = none) : Modes.get m p n = (false, false) := by unfold Modes.get; rw [h]
theorem get_some {m : M} {p : Bool} {n : Int} {i : Nat} (h : place p n = some i) : Modes.get m p n = (m.get i, true) := by unfold Modes.get; rw [h]
theorem put_none {m : M} {p on : Bool} {n : Int} (h : place p n = none) : Modes.put m p n on = (m, false) := by unfold Modes.put; rw [h]
theorem put_some {m : M} {p on : Bool} {n : Int} {i : Nat} (h : place p n = some i) : Modes.put m p n on = (m.set i on, true) := by unfold Modes.put; rw [h]
attribute [local irreducible] World.setCell World.setCells World.alloc World.drew World.drewN Calls sat cel own blk old mp wpQuiet tab setb acc
theorem flag_n {b : Nat} {m : M} {p : Bool} {n : Int} {i : Option Nat} (h : place p n = i) (hn : (Lit.int .i64 n).wf = true) (hs : sat W (cel b 23 (mL m) :: H) w) :
    Calls Try.prog 17 #[.pointer (some ⟨b, 0, none⟩), .bool p, .int .i64 n] w fun e w' => e = .returned (ptrTo b i) ∧ sat W (cel b 23 (mL m) :: H) w' := h ▸ flag17 b m p n hn hs
theorem place_n {p : Bool} {n k : Int} (h : plc p n = k) (w : World) : Calls Try.prog 18 #[.bool p, .int .i64 n] w fun e w' => e = .returned (.int .i64 k) ∧ w' = w := h ▸ place18 p n w
set_option maxHeartbeats 2000000 in
theorem get10 (m : M) (p : Bool) (n : Int) (hn : (Lit.int .i64 n).wf = true) (hs : sat W H w) : Calls Try.prog 10 #[mV m, .bool p, .int .i64 n] w fun e w' => e = .returned (.tuple #[.bool (Modes.get m p n).1, .bool (Modes.get m p n).2]) ∧ sat W H w' := by
  have HN := Lib.hid hn
  clear hn
  cases hp : place p n with
  | none =>
    have HP := Lib.hid hp
    rw [get_none hp]
    clear hp
    go_enter Try.func10, Try.ntmps10
    go_wp2_with (first | (go_at_call 17; refine (flag_n (m := m) HP.out HN.out hs).mono ?_; clear hs; rintro e w ⟨rfl, hs⟩; simp only [ptrTo]) | (apply ld hs.b0; exact rfl; exact rfl; exact rfl; exact rfl; kernel_rfl) | (apply st hs.b0; exact rfl; exact rfl; exact rfl; exact rfl; exact rfl; exact rfl; kernel_rfl; exact rfl; clear hs; intro w hs) | (apply stc hs.b0; exact rfl; exact rfl; exact rfl; exact rfl; exact rfl; kernel_rfl; exact rfl; clear hs; intro w hs) | (refine wrap hs ?_; clear hs; (first | generalize w.heap.size = z1); intro w hs) | (refine wrap hs ?_; clear hs; intro w hs) | (refine wrapn hs ?_; clear hs; intro w hs) | (refine wrapd hs ?_; clear hs; intro w hs))
    refine end_ret rfl (results_tmp2 rfl _ _ _) ?_
    exact ⟨rfl, hs.drop⟩
  | some i =>
    have HP := Lib.hid hp
    have HG := Lib.hid (mget m i (place_lt hp))
    rw [get_some hp]
    clear hp
    go_enter Try.func10, Try.ntmps10
    go_wp2_with (first | (go_at_call 17; refine (flag_n (m := m) HP.out HN.out hs).mono ?_; clear hs; rintro e w ⟨rfl, hs⟩; simp only [ptrTo]) | (apply ld hs.b0; exact rfl; exact rfl; exact rfl; exact rfl; kernel_rfl) | (apply ld hs.b0; exact rfl; exact rfl; exact rfl; exact HG.out; kernel_rfl) | (apply st hs.b0; exact rfl; exact rfl; exact rfl; exact rfl; exact rfl; exact rfl; kernel_rfl; exact rfl; clear hs; intro w hs) | (apply stc hs.b0; exact rfl; exact rfl; exact rfl; exact rfl; exact rfl; kernel_rfl; exact rfl; clear hs; intro w hs) | (refine wrap hs ?_; clear hs; (first | generalize w.heap.size = z1); intro w hs) | (refine wrap hs ?_; clear hs; intro w hs) | (refine wrapn hs ?_; clear hs; intro w hs) | (refine wrapd hs ?_; clear hs; intro w hs))
    refine end_ret rfl (results_tmp2 rfl _ _ _) ?_
    exact ⟨rfl, hs.drop⟩
set_option maxHeartbeats 2000000 in
theorem put7 (m : M) (p : Bool) (n : Int) (on : Bool) (hn : (Lit.int .i64 n).wf = true) (hs : sat W H w) : Calls Try.prog 7 #[mV m, .bool p, .int .i64 n, .bool on] w fun e w' => e = .returned (.tuple #[mV (Modes.put m p n on).1, .bool (Modes.put m p n on).2]) ∧ sat W H w' := by
  have HN := Lib.hid hn
  clear hn
  cases hp : place p n with
  | none =>
    have HP := Lib.hid hp
    rw [put_none hp]
    clear hp
    go_enter Try.func7, Try.ntmps7
    go_wp2_with (first | (go_at_call 17; refine (flag_n (m := m) HP.out HN.out hs.b1).mono ?_; clear hs; rintro e w ⟨rfl, hs⟩; simp only [ptrTo]) | (apply stsw hs.b0; exact rfl; exact rfl; exact rfl; exact rfl; (show rowTy _ _ 8 = true; kernel_rfl); exact rfl; exact rfl; exact rfl; clear hs; intro w hs) | (apply stsw hs.b1; exact rfl; exact rfl; exact rfl; exact rfl; (show rowTy _ _ 8 = true; kernel_rfl); exact rfl; exact rfl; exact rfl; clear hs; intro w hs) | (apply ldsw hs.b0; exact rfl; exact rfl; exact rfl; (show rowTy _ _ 8 = true; kernel_rfl)) | (apply ldsw hs.b1; exact rfl; exact rfl; exact rfl; (show rowTy _ _ 8 = true; kernel_rfl)) | (apply ld hs.b0; exact rfl; exact rfl; exact rfl; exact rfl; kernel_rfl) | (apply ld hs.b1; exact rfl; exact rfl; exact rfl; exact rfl; kernel_rfl) | (apply st hs.b0; exact rfl; exact rfl; exact rfl; exact rfl; exact rfl; exact rfl; kernel_rfl; exact rfl; clear hs; intro w hs) | (apply st hs.b1; exact rfl; exact rfl; exact rfl; exact rfl; exact rfl; exact rfl; kernel_rfl; exact rfl; clear hs; intro w hs) | (apply stc hs.b0; exact rfl; exact rfl; exact rfl; exact rfl; exact rfl; kernel_rfl; exact rfl; clear hs; intro w hs) | (apply stc hs.b1; exact rfl; exact rfl; exact rfl; exact rfl; exact rfl; kernel_rfl; exact rfl; clear hs; intro w hs) | (refine wrap hs ?_; clear hs; (first | (have _t := z1; clear _t; generalize w.heap.size = z2) | generalize w.heap.size = z1); intro w hs) | (refine wrap hs ?_; clear hs; intro w hs) | (refine wrapn hs ?_; clear hs; intro w hs) | (refine wrapd hs ?_; clear hs; intro w hs))
    first
    | refine ret_cellt hs rfl rfl rfl rfl (show rowTy _ _ 8 = true by kernel_rfl) ⟨rfl, hs.drop.drop⟩
    | refine ret_cellt hs.b1 rfl rfl rfl rfl (show rowTy _ _ 8 = true by kernel_rfl) ⟨rfl, hs.drop.drop⟩
  | some i =>
    have HP := Lib.hid hp
    have HG := Lib.hid (mset m i (place_lt hp) on)
    have HI := Lib.hid (show (mL m)[i]?.isSome = true by rw [mget m i (place_lt hp)]; rfl)
    rw [put_some hp]
    clear hp
    go_enter Try.func7, Try.ntmps7
    go_wp2_with (first | (go_at_call 17; refine (flag_n (m := m) HP.out HN.out hs.b1).mono ?_; clear hs; rintro e w ⟨rfl, hs⟩; simp only [ptrTo]) | (apply st hs; exact rfl; exact rfl; exact rfl; exact rfl; exact rfl; exact HI.out; kernel_rfl; exact rfl; clear hs; intro w hs; rw [HG.out] at hs) | (apply stsw hs.b0; exact rfl; exact rfl; exact rfl; exact rfl; (show rowTy _ _ 8 = true; kernel_rfl); exact rfl; exact rfl; exact rfl; clear hs; intro w hs) | (apply stsw hs.b1; exact rfl; exact rfl; exact rfl; exact rfl; (show rowTy _ _ 8 = true; kernel_rfl); exact rfl; exact rfl; exact rfl; clear hs; intro w hs) | (apply ldsw hs.b0; exact rfl; exact rfl; exact rfl; (show rowTy _ _ 8 = true; kernel_rfl)) | (apply ldsw hs.b1; exact rfl; exact rfl; exact rfl; (show rowTy _ _ 8 = true; kernel_rfl)) | (apply ld hs.b0; exact rfl; exact rfl; exact rfl; exact rfl; kernel_rfl) | (apply ld hs.b1; exact rfl; exact rfl; exact rfl; exact rfl; kernel_rfl) | (apply st hs.b0; exact rfl; exact rfl; exact rfl; exact rfl; exact rfl; exact rfl; kernel_rfl; exact rfl; clear hs; intro w hs) | (apply st hs.b1; exact rfl; exact rfl; exact rfl; exact rfl; exact rfl; exact rfl; kernel_rfl; exact rfl; clear hs; intro w hs) | (apply stc hs.b0; exact rfl; exact rfl; exact rfl; exact rfl; exact rfl; kernel_rfl; exact rfl; clear hs; intro w hs) | (apply stc hs.b1; exact rfl; exact rfl; exact rfl; exact rfl; exact rfl; kernel_rfl; exact rfl; clear hs; intro w hs) | (refine wrap hs ?_; clear hs; (first | (have _t := z1; clear _t; generalize w.heap.size = z2) | generalize w.heap.size = z1); intro w hs) | (refine wrap hs ?_; clear hs; intro w hs) | (refine wrapn hs ?_; clear hs; intro w hs) | (refine wrapd hs ?_; clear hs; intro w hs))
    first
    | refine ret_cellt hs rfl rfl rfl rfl (show rowTy _ _ 8 = true by kernel_rfl) ⟨rfl, hs.drop.drop⟩
    | refine ret_cellt hs.b1 rfl rfl rfl rfl (show rowTy _ _ 8 = true by kernel_rfl) ⟨rfl, hs.drop.drop⟩
set_option maxHeartbeats 2000000 in
theorem def12 (hs : sat W H w) : Calls Try.prog 12 #[] w fun e w' => e = .returned (mV dflt) ∧ sat W H w' := by
  go_enter Try.func12, Try.ntmps12
  go_wp2_with (first | (apply stsw hs.b0; exact rfl; exact rfl; exact rfl; exact rfl; (show rowTy _ _ 8 = true; kernel_rfl); exact rfl; exact rfl; exact rfl; clear hs; intro w hs) | (apply ldsw hs.b0; exact rfl; exact rfl; exact rfl; (show rowTy _ _ 8 = true; kernel_rfl)) | (apply ld hs.b0; exact rfl; exact rfl; exact rfl; exact rfl; kernel_rfl) | (apply ld hs.b1; exact rfl; exact rfl; exact rfl; exact rfl; kernel_rfl) | (apply st hs.b0; exact rfl; exact rfl; exact rfl; exact rfl; exact rfl; exact rfl; kernel_rfl; exact rfl; clear hs; intro w hs) | (apply st hs.b1; exact rfl; exact rfl; exact rfl; exact rfl; exact rfl; exact rfl; kernel_rfl; exact rfl; clear hs; intro w hs) | (apply stc hs.b0; exact rfl; exact rfl; exact rfl; exact rfl; exact rfl; kernel_rfl; exact rfl; clear hs; intro w hs) | (apply stc hs.b1; exact rfl; exact rfl; exact rfl; exact rfl; exact rfl; kernel_rfl; exact rfl; clear hs; intro w hs) | (refine wrap hs ?_; clear hs; (first | generalize w.heap.size = z1); intro w hs) | (refine wrap hs ?_; clear hs; intro w hs) | (refine wrapn hs ?_; clear hs; intro w hs) | (refine wrapd hs ?_; clear hs; intro w hs))
  refine ret_cell hs rfl rfl rfl (show rowTy _ _ 8 = true by kernel_rfl) ⟨rfl, hs.drop⟩
set_option maxHeartbeats 2000000 in
theorem def13 (hs : sat W H w) : Calls Try.prog 13 #[] w fun e w' => e = .returned (mV dflt) ∧ sat W H w' := by
  go_enter Try.func13, Try.ntmps13
  go_wp2_with (first | (apply stsw hs.b0; exact rfl; exact rfl; exact rfl; exact rfl; (show rowTy _ _ 8 = true; kernel_rfl); exact rfl; exact rfl; exact rfl; clear hs; intro w hs) | (apply stsw hs.b1; exact rfl; exact rfl; exact rfl; exact rfl; (show rowTy _ _ 8 = true; kernel_rfl); exact rfl; exact rfl; exact rfl; clear hs; intro w hs) | (apply ldsw hs.b0; exact rfl; exact rfl; exact rfl; (show rowTy _ _ 8 = true; kernel_rfl)) | (apply ldsw hs.b1; exact rfl; exact rfl; exact rfl; (show rowTy _ _ 8 = true; kernel_rfl)) | (apply ld hs.b0; exact rfl; exact rfl; exact rfl; exact rfl; kernel_rfl) | (apply ld hs.b1; exact rfl; exact rfl; exact rfl; exact rfl; kernel_rfl) | (apply st hs.b0; exact rfl; exact rfl; exact rfl; exact rfl; exact rfl; exact rfl; kernel_rfl; exact rfl; clear hs; intro w hs) | (apply st hs.b1; exact rfl; exact rfl; exact rfl; exact rfl; exact rfl; exact rfl; kernel_rfl; exact rfl; clear hs; intro w hs) | (apply stc hs.b0; exact rfl; exact rfl; exact rfl; exact rfl; exact rfl; kernel_rfl; exact rfl; clear hs; intro w hs) | (apply stc hs.b1; exact rfl; exact rfl; exact rfl; exact rfl; exact rfl; kernel_rfl; exact rfl; clear hs; intro w hs) | (refine wrap hs ?_; clear hs; (first | (have _t := z1; clear _t; generalize w.heap.size = z2) | generalize w.heap.size = z1); intro w hs) | (refine wrap hs ?_; clear hs; intro w hs) | (refine wrapn hs ?_; clear hs; intro w hs) | (refine wrapd hs ?_; clear hs; intro w hs))
  first
  | refine ret_cell hs rfl rfl rfl (show rowTy _ _ 8 = true by kernel_rfl) ⟨rfl, hs.drop.drop⟩
  | refine ret_cell hs.b1 rfl rfl rfl (show rowTy _ _ 8 = true by kernel_rfl) ⟨rfl, hs.drop.drop⟩
end Go.Proofs.Ytninmdoeippcgaa
