/- Law 20: Tell's walk. -/
import Derived.Test.YtdbaiioeaffgaaaW25
namespace Go.Proofs.Ytdbaiioeaffgaaa
open Go.RowKit Go.Mem Go.Words Go.Deep
variable {W w : World} {H : List HProp} {a : Option Addr} {n cp : Nat} {L : List Cm}
theorem ix55 {c : Array Value} {k : Nat} {v : Value} {o : Oper} {ops : Array Oper} {rest : List Oper} {a : Act} {Q : Exit → Act → World → Prop} {x i : Operand} (ho : o.op = .index 55 x i) (hw : Region.wanted o (yielded ops a.tmps) = true) (hx : a.eval x = .agg c) (hi : a.eval i = .int .i64 k)
    (hk : k < 3) (hv : c[k]? = some v) (h : wpList Try.prog ops Q rest (a.put o.dst v) w) : wpList Try.prog ops Q (o :: rest) a w :=
  ix ho hw hx hi Try.underlying55 (by kernel_rfl) hk hv h
theorem word_v {t : Nat} {x : Tx} {ws : List (Nat × Nat)} {col : Int} {y : Nat × Nat} {b : Bool} (e : words x.blank = ws) (e2 : wordV (wordW ws col) = .tuple #[exV y, .bool b]) (hn : x.blank.length ≤ 1000) (hs : sat W (tx t x :: H) w) : Calls Try.prog 17 #[.pointer (some ⟨t, 0, none⟩), .int .i64 col] w fun e w' => e = .returned (.tuple #[exV y, .bool b]) ∧ sat W (tx t x :: H) w' := e2 ▸ word17 (Hc := [tx t x]) (ws_tx e hn) col hs
theorem rword_v {ws : List (Nat × Nat)} {col : Int} {y : Nat × Nat} {b : Bool} (hc : CS W H a n cp L) (hz : size (cl L) ≤ 600) (e : words ((cl L).map isB) = ws) (e2 : wordV (wordW ws col) = .tuple #[exV y, .bool b]) (hs : sat W H w) :
    Calls Try.prog 27 #[.slice a n cp, .int .i64 col] w fun e w' => e = .returned (.tuple #[exV y, .bool b]) ∧ sat W H w' := e2 ▸ rword27 hc hz e rfl hs
theorem rplace_t {r k : Nat} {p : Int} (hp : p = (k : Int)) (hc : CS W H a n cp L) (hz : size (cl L) ≤ 600) (e : (if n ≤ k then (rpart (cl L) 0 n).length else (rpart (cl L) 0 (back (cl L) k)).length) = r) (hs : sat W H w) :
    Calls Try.prog 28 #[.slice a n cp, .int .i64 p] w fun e w' => e = .returned (.int .i64 (r : Int)) ∧ sat W H w' := hp ▸ rplace28 hc hz e hs
theorem cm_split {L : List Cm} {i : Nat} {m : Cm} (h : L[i]? = some m) : L = L.take i ++ m :: L.drop (i + 1) := by
  have hi := (List.getElem?_eq_some_iff.1 h).1
  rw [← (List.getElem?_eq_some_iff.1 h).2, ← List.drop_eq_getElem_cons hi, List.take_append_drop]
theorem set_row {gI cI k t : Nat} {L2 : List Cm} {x : Tx} (g : Int → Cm) (HRS : ∀ r, rowsS (L2.set k (g r)) = rowsS L2) {r : Int} (hs : sat W (own 36 6 (.slice (some ⟨gI, 0, none⟩) n cI) n (cellsF (L2.set k (g r))) :: tx t x :: rowsS L2 :: H) w) :
    ∃ r, sat W (tx t x :: own 36 6 (.slice (some ⟨gI, 0, none⟩) n cI) n (cellsF (L2.set k (g r))) :: rowsS (L2.set k (g r)) :: H) w := ⟨r, by rw [HRS]; exact hs.b1⟩
theorem one21 : oneTy Try.prog 21 = true := by kernel_rfl
theorem one27 : oneTy Try.prog 27 = true := by kernel_rfl
theorem rpart_n {x y : Int} {l : List Int} {k : Nat} (e : rpart (cl L) x y = l) (e2 : l.length = k) (hc : CS W H a n cp L) (hz : size (cl L) ≤ 600) (hs : sat W H w) :
    Calls Try.prog 23 #[.slice a n cp, .int .i64 x, .int .i64 y] w fun e w' => ∃ a' c', e = .returned (.slice a' k c') ∧ sat W (own 21 1 (.slice a' k c') k (i32s l) :: H) w' := e2 ▸ rpart_t hc hz e hs
theorem rtrim_n {l : List Int} {k : Nat} (e : rpart (cl L) 0 (trim ((cl L).map isB)) = l) (e2 : l.length = k) (hc : CS W H a n cp L) (hz : size (cl L) ≤ 600) (hs : sat W H w) :
    Calls Try.prog 24 #[.slice a n cp] w fun e w' => ∃ a' c', e = .returned (.slice a' k c') ∧ sat W (own 21 1 (.slice a' k c') k (i32s l) :: H) w' := e2 ▸ rtrim24 hc hz e hs
theorem trim_n {t : Nat} {x : Tx} {l : List Int} {k : Nat} (e2 : l.length = k) (hx : x.Ok) (hn : x.cols.length ≤ 1000) (hn2 : x.blank.length ≤ 1000) (hl : x.part 0 (trim x.blank) = l) (hs : sat W (tx t x :: H) w) :
    Calls Try.prog 20 #[.pointer (some ⟨t, 0, none⟩)] w fun e w' => ∃ a c, e = .returned (.slice a k c) ∧ sat W (own 21 1 (.slice a k c) k (i32s l) :: tx t x :: H) w' := e2 ▸ trimmed20 hx hn hn2 hl hs
theorem part_n {t : Nat} {x : Tx} {l : List Int} {fr to_ : Int} {k : Nat} (e2 : l.length = k) (hx : x.Ok) (hn : x.cols.length ≤ 1000) (e : x.part fr to_ = l) (hs : sat W (tx t x :: H) w) :
    Calls Try.prog 21 #[.pointer (some ⟨t, 0, none⟩), .int .i64 fr, .int .i64 to_] w fun e w' => ∃ a c, e = .returned (.slice a k c) ∧ sat W (own 21 1 (.slice a k c) k (i32s l) :: tx t x :: H) w' := e2 ▸ part_t hx hn e hs
attribute [local irreducible] World.setCell World.setCells World.alloc World.drew World.drewN Calls sat cel own blk old wpQuiet wpList tx rowsS
set_option maxHeartbeats 8000000 in
set_option maxRecDepth 20000 in
theorem tell_walk (hc : CS W H a n cp L) (hz : size (cl L) ≤ 600) (fr to_ : Int) (hs : sat W H w) : Calls Try.prog 5 #[.slice a n cp, .int .i64 fr, .int .i64 to_] w fun e w' => e = .returned (.bool true) ∧ sat W H w' := by
  have hn0 := hc.len.1
  have hn : n ≤ 600 := by have := len_size (cl L); rw [List.length_map] at this; omega
  have HN := Lib.hid (show (cl L).length = n by rw [List.length_map, hn0])
  have HC := Lib.hid hc
  have HZ := Lib.hid hz
  have HG := Lib.hid (show decide (600 < size (cl L)) = false by simpa using hz)
  have hbl : (textOf (cl L)).blank = (cl L).map isB := tx_cells _
  have HZ2 : Hid (size (cl L) ≤ 2000000) := Lib.hid (by omega)
  have HX := Lib.hid (tx_ok (cl L))
  have HPT := Lib.hid (fun x y => part_text (cl L) x y)
  have hrl : (textOf (cl L)).runes.length ≤ 600 := Nat.le_trans (ok_run (cl L)).hz hz
  obtain ⟨x, hx⟩ : ∃ x, textOf (cl L) = x := ⟨_, rfl⟩
  have HRA : Hid (rpart (cl L) 0 n = x.runes) := Lib.hid (by rw [← hx, ← rpart_all, HN.out])
  have HPL : Hid (∀ k : Nat, (if n ≤ k then (rpart (cl L) 0 n).length else (rpart (cl L) 0 (back (cl L) k)).length) = x.place k) := Lib.hid (fun k => by rw [← hx]; exact place_any HN.out k)
  rw [hx] at hbl HX HPT hrl
  have HT := Lib.hid hx
  have HBL := Lib.hid hbl
  have hbn : x.blank.length = n := by rw [hbl, List.length_map, List.length_map, hn0]
  have HB := Lib.hid hbn
  have HK1 : Hid (x.cols.length ≤ 1000) := Lib.hid (by rw [HX.out.hc]; omega)
  have HK2 : Hid (x.blank.length ≤ 1000) := Lib.hid (by omega)
  clear hc hz hn0 hx hbl hbn
  go_enter Try.func5, Try.ntmps5
  go_upto_region 5 with (first | (go_at_call 7; refine (great_t HG.out HC.out HZ2.out hs).mono ?_; clear hs; rintro e w ⟨rfl, hs⟩) | (go_at_call 19; refine (copy19 HC.out HZ.out hs).mono ?_; clear hs; rintro e w ⟨zc, aI, cI, L', rfl, hcl, hs⟩; have HCL := Lib.hid hcl; clear hcl) | ((with_reducible refine isl ?_); first | ((with_reducible apply ld hs.b0); exact rfl; exact rfl; exact rfl; exact rfl; kernel_rfl) | ((with_reducible apply ld hs.b1); exact rfl; exact rfl; exact rfl; exact rfl; kernel_rfl) | ((with_reducible apply ld hs.b2); exact rfl; exact rfl; exact rfl; exact rfl; kernel_rfl) | ((with_reducible apply st hs.b0); exact rfl; exact rfl; exact rfl; exact rfl; exact rfl; exact rfl; kernel_rfl; exact rfl; clear hs; intro w hs) | ((with_reducible apply st hs.b1); exact rfl; exact rfl; exact rfl; exact rfl; exact rfl; exact rfl; kernel_rfl; exact rfl; clear hs; intro w hs) | ((with_reducible apply st hs.b2); exact rfl; exact rfl; exact rfl; exact rfl; exact rfl; exact rfl; kernel_rfl; exact rfl; clear hs; intro w hs) | ((with_reducible apply stc hs.b0); exact rfl; exact rfl; exact rfl; exact rfl; exact rfl; kernel_rfl; exact rfl; clear hs; intro w hs) | ((with_reducible apply stc hs.b1); exact rfl; exact rfl; exact rfl; exact rfl; exact rfl; kernel_rfl; exact rfl; clear hs; intro w hs) | ((with_reducible apply stc hs.b2); exact rfl; exact rfl; exact rfl; exact rfl; exact rfl; kernel_rfl; exact rfl; clear hs; intro w hs) | ((with_reducible refine wrap hs ?_); clear hs; (first | generalize w.heap.size = zr); intro w hs) | ((with_reducible refine wrap hs ?_); clear hs; intro w hs) | ((with_reducible refine wrapn hs ?_); clear hs; intro w hs) | ((with_reducible refine wrapd hs ?_); clear hs; intro w hs)))
  have hcs := cs_own (hs.drop)
  have HCS := Lib.hid hcs
  clear hcs
  replace hs := hs.drop
  have HF : Hid (L'.length = n ∧ Few L') := Lib.hid ⟨by have := HN.out; rw [← HCL.out, List.length_map] at this; exact this, few_size (by rw [HCL.out]; exact HZ.out)⟩
  have HT2 : Hid (textOf (cl L') = x) := Lib.hid (by rw [HCL.out]; exact HT.out)
  have HZ3 : Hid (size (cl L') ≤ 600) := Lib.hid (by rw [HCL.out]; exact HZ.out)
  go_wp2_with (first | (go_at_call 9; refine (of9_t HT2.out HCS.out HZ3.out hs).mono ?_; clear hs; rintro e w ⟨t, rfl, hs⟩) | ((with_reducible refine isl ?_); first | ((with_reducible refine wrap hs ?_); clear hs; intro w hs) | ((with_reducible refine wrapn hs ?_); clear hs; intro w hs) | ((with_reducible refine wrapd hs ?_); clear hs; intro w hs)))
  
  replace hs : sat W (tx t x :: own 36 6 (.slice aI n cI) n (cellsF L') :: rowsS L' :: H) w := by (refine sat_from ?_ hs; repeat (first | exact Sub.refl _ | exact Sub.nil _ | refine Sub.c0 ?_ | refine Sub.c1 ?_ | refine Sub.c2 ?_ | refine Sub.c3 ?_ | refine Sub.c4 ?_ | refine Sub.c5 ?_ | refine Sub.c6 ?_ | refine Sub.c7 ?_ | refine Sub.c8 ?_ | refine Sub.c9 ?_ | refine Sub.skip ?_))
  go_loopw [39] (fun i wr => ∃ (k : Nat) (L2 : List Cm), k ≤ n ∧ i = .int .i64 (k : Int) ∧ Hid (L2.length = n ∧ Few L2) ∧ sat W (tx t x :: own 36 6 (.slice aI n cI) n (cellsF L2) :: rowsS L2 :: H) wr) (fun i _ => ((n : Int) - intOf i).toNat)
  case atStart => exact ⟨0, L', Nat.zero_le _, rfl, HF, hs⟩
  case round =>
    clear hs
    obtain ⟨k, L2, hk, rfl, HL2, hs⟩ := hrel
    by_cases hlt : k < n
    · obtain ⟨gI, cI2, e⟩ := hs.b1.own_some (by omega)
      cases e
      obtain ⟨⟨mc, ca, cc0, fg, bg, fl⟩, hm⟩ : ∃ m, L2[k]? = some m := ⟨_, List.getElem?_eq_getElem (by rw [HL2.out.1]; exact hlt)⟩
      have HR : Hid ((cellsF L2)[k * 6]? = some (.int .i32 mc.r)) := Lib.hid (cellsF_get hm 0 (by decide))
      have HIS : Hid ((cellsF L2)[k * 6]?.isSome = true) := Lib.hid (by rw [HR.out]; rfl)
      have HSR : Hid (∀ r : Int, (cellsF L2).set (k * 6) (.int .i32 r) = cellsF (L2.set k ⟨⟨r, mc.comb, mc.wide⟩, ca, cc0, fg, bg, fl⟩)) := Lib.hid (fun r => cellsF_setR L2 k _ r hm)
      have HRS : Hid (∀ r : Int, rowsS (L2.set k ⟨⟨r, mc.comb, mc.wide⟩, ca, cc0, fg, bg, fl⟩) = rowsS L2) := Lib.hid (fun r => rowsS_set L2 k _ r hm)
      have HG3 : Hid (∀ r : Int, (L2.set k ⟨⟨r, mc.comb, mc.wide⟩, ca, cc0, fg, bg, fl⟩)[k]? = some ⟨⟨r, mc.comb, mc.wide⟩, ca, cc0, fg, bg, fl⟩) := Lib.hid (fun r => by rw [List.getElem?_set_self (by rw [HL2.out.1]; exact hlt)])
      have HF3 : Hid (∀ r : Int, (L2.set k ⟨⟨r, mc.comb, mc.wide⟩, ca, cc0, fg, bg, fl⟩).length = n ∧ Few (L2.set k ⟨⟨r, mc.comb, mc.wide⟩, ca, cc0, fg, bg, fl⟩)) := Lib.hid (fun r => ⟨by rw [List.length_set]; exact HL2.out.1, few_set HL2.out.2 hm r⟩)
      have hq : mc.comb.length ≤ 600 := HL2.out.2 _ (List.mem_of_getElem? hm)
      have hkn : (k : Int) < (n : Int) := by omega
      clear hm
      go_upto_region 10 with (first | ((with_reducible refine isl ?_); first | ((with_reducible apply ldo hs.b1); exact rfl; exact rfl; exact rfl; exact HR.out; exact one21) | ((with_reducible apply sto hs.b1); exact rfl; exact rfl; exact rfl; exact rfl; exact rfl; exact HIS.out; exact one21; exact rfl; clear hs; intro w hs; rw [HSR.out] at hs) | ((with_reducible refine wrap hs ?_); clear hs; intro w hs) | ((with_reducible refine wrapn hs ?_); clear hs; intro w hs) | ((with_reducible refine wrapd hs ?_); clear hs; intro w hs)))
      obtain ⟨r, hs⟩ := set_row (fun r => ⟨⟨r, mc.comb, mc.wide⟩, ca, cc0, fg, bg, fl⟩) HRS.out hs
      obtain ⟨A, B, hAB, hA⟩ : ∃ A B, (L2.set k ⟨⟨r, mc.comb, mc.wide⟩, ca, cc0, fg, bg, fl⟩) = (A ++ ⟨⟨r, mc.comb, mc.wide⟩, ca, cc0, fg, bg, fl⟩ :: B) ∧ A.length = k := ⟨(L2.set k ⟨⟨r, mc.comb, mc.wide⟩, ca, cc0, fg, bg, fl⟩).take k, (L2.set k ⟨⟨r, mc.comb, mc.wide⟩, ca, cc0, fg, bg, fl⟩).drop (k + 1), cm_split (HG3.out r), by rw [List.length_take, (HF3.out r).1]; omega⟩
      have HCM : Hid ((cellsF (A ++ ⟨⟨r, mc.comb, mc.wide⟩, ca, cc0, fg, bg, fl⟩ :: B))[k * 6 + 1]? = some (.slice ca mc.comb.length cc0)) := Lib.hid (by rw [← hAB]; exact cellsF_get (HG3.out r) 1 (by decide))
      have HFL : Hid (∀ cb : List Int, cb.length = mc.comb.length → (A ++ ⟨⟨r, cb, mc.wide⟩, ca, cc0, fg, bg, fl⟩ :: B).length = n ∧ Few (A ++ ⟨⟨r, cb, mc.wide⟩, ca, cc0, fg, bg, fl⟩ :: B)) := Lib.hid (fun cb hcb => by
        have h1 := HF3.out r
        rw [hAB] at h1
        refine ⟨by have := h1.1; simp only [List.length_append, List.length_cons] at this ⊢; exact this, fun y hy => ?_⟩
        rcases List.mem_append.1 hy with hy | hy
        · exact h1.2 y (by simp [hy])
        · rcases List.mem_cons.1 hy with rfl | hy
          · show cb.length ≤ 600
            omega
          · exact h1.2 y (by simp [hy]))
      rw [hAB] at hs
      replace hs : sat W (tx t x :: own 36 6 (.slice (some ⟨gI, 0, none⟩) n cI) n (cellsF (A ++ ⟨⟨r, mc.comb, mc.wide⟩, ca, cc0, fg, bg, fl⟩ :: B)) :: own 21 1 (.slice ca mc.comb.length cc0) mc.comb.length (i32s mc.comb) :: rowsS A :: rowsS B :: H) w := by
        have h2 := rows_out A _ B hs.b2
        (refine sat_from ?_ h2; repeat (first | exact Sub.refl _ | exact Sub.nil _ | refine Sub.c0 ?_ | refine Sub.c1 ?_ | refine Sub.c2 ?_ | refine Sub.c3 ?_ | refine Sub.c4 ?_ | refine Sub.c5 ?_ | refine Sub.c6 ?_ | refine Sub.c7 ?_ | refine Sub.c8 ?_ | refine Sub.c9 ?_ | refine Sub.skip ?_))
      clear hAB hA HSR HRS HG3 HF3 HR HIS
      go_wp2_with (first | ((with_reducible refine isl ?_); first | ((with_reducible apply ldo hs.b1); exact rfl; exact rfl; exact rfl; exact HCM.out; exact one27) | ((with_reducible refine wrap hs ?_); clear hs; intro w hs) | ((with_reducible refine wrapn hs ?_); clear hs; intro w hs) | ((with_reducible refine wrapd hs ?_); clear hs; intro w hs)))
      have hs := hs
      go_loopw [56] (fun i wr2 => ∃ (j : Nat) (cb : List Int), j ≤ mc.comb.length ∧ i = .int .i64 (j : Int) ∧ Hid (cb.length = mc.comb.length) ∧ sat W (tx t x :: own 36 6 (.slice (some ⟨gI, 0, none⟩) n cI) n (cellsF (A ++ ⟨⟨r, mc.comb, mc.wide⟩, ca, cc0, fg, bg, fl⟩ :: B)) :: own 21 1 (.slice ca mc.comb.length cc0) mc.comb.length (i32s cb) :: rowsS A :: rowsS B :: H) wr2) (fun i _ => ((mc.comb.length : Int) - intOf i).toNat)
      case atStart => exact ⟨0, mc.comb, Nat.zero_le _, rfl, Lib.hid rfl, hs⟩
      case round =>
        clear hs
        obtain ⟨j, cb, hj, rfl, HCB, hs⟩ := hrel
        by_cases hjl : j < mc.comb.length
        · obtain ⟨gm, cm, e⟩ := hs.b2.own_some (by omega)
          cases e
          have hjc : j < cb.length := by rw [HCB.out]; exact hjl
          have HV := Lib.hid (i32_get hjc)
          have HIS := Lib.hid (i32s_is hjc)
          have HLS : Hid (∀ v : Int, (cb.set j v).length = mc.comb.length) := Lib.hid (fun v => by rw [List.length_set]; exact HCB.out)
          generalize cb.getD j 0 = y at HV
          have hjn : (j : Int) < (mc.comb.length : Int) := by omega
          clear hjc
          go_wp2_with (first | ((with_reducible refine isl ?_); first | ((with_reducible apply ldo hs.b1); exact rfl; exact rfl; exact rfl; exact HCM.out; exact one27) | ((with_reducible apply ldo hs.b2); exact rfl; exact rfl; exact rfl; exact HV.out; exact one21) | ((with_reducible apply sto hs.b2); exact rfl; exact rfl; exact rfl; exact rfl; exact rfl; exact HIS.out; exact one21; exact rfl; clear hs; intro w hs; rw [i32s_set] at hs) | ((with_reducible refine wrap hs ?_); clear hs; intro w hs) | ((with_reducible refine wrapn hs ?_); clear hs; intro w hs) | ((with_reducible refine wrapd hs ?_); clear hs; intro w hs)))
          go_roundw
          case rel => exact ⟨j + 1, _, hjl, by go_num, Lib.hid (HLS.out _), by (refine sat_from ?_ hs; repeat (first | exact Sub.refl _ | exact Sub.nil _ | refine Sub.c0 ?_ | refine Sub.c1 ?_ | refine Sub.c2 ?_ | refine Sub.c3 ?_ | refine Sub.c4 ?_ | refine Sub.c5 ?_ | refine Sub.c6 ?_ | refine Sub.c7 ?_ | refine Sub.c8 ?_ | refine Sub.c9 ?_ | refine Sub.skip ?_))⟩
          case measure => simp [intOf]; omega
        · obtain rfl : j = mc.comb.length := by omega
          replace hs : sat W (tx t x :: own 36 6 (.slice (some ⟨gI, 0, none⟩) n cI) n (cellsF (A ++ ⟨⟨r, cb, mc.wide⟩, ca, cc0, fg, bg, fl⟩ :: B)) :: rowsS (A ++ ⟨⟨r, cb, mc.wide⟩, ca, cc0, fg, bg, fl⟩ :: B) :: H) wr := by
            rw [cells_like A B ⟨⟨r, mc.comb, mc.wide⟩, ca, cc0, fg, bg, fl⟩ cb HCB.out]
            have h1 : sat W (own 21 1 (.slice ca mc.comb.length cc0) mc.comb.length (i32s cb) :: rowsS A :: rowsS B :: tx t x :: own 36 6 (.slice (some ⟨gI, 0, none⟩) n cI) n (cellsF (A ++ ⟨⟨r, mc.comb, mc.wide⟩, ca, cc0, fg, bg, fl⟩ :: B)) :: H) wr := by (refine sat_from ?_ hs; repeat (first | exact Sub.refl _ | exact Sub.nil _ | refine Sub.c0 ?_ | refine Sub.c1 ?_ | refine Sub.c2 ?_ | refine Sub.c3 ?_ | refine Sub.c4 ?_ | refine Sub.c5 ?_ | refine Sub.c6 ?_ | refine Sub.c7 ?_ | refine Sub.c8 ?_ | refine Sub.c9 ?_ | refine Sub.skip ?_))
            rw [← HCB.out] at h1
            have h2 := rows_in A ⟨⟨r, cb, mc.wide⟩, ca, cc0, fg, bg, fl⟩ B h1
            (refine sat_from ?_ h2; repeat (first | exact Sub.refl _ | exact Sub.nil _ | refine Sub.c0 ?_ | refine Sub.c1 ?_ | refine Sub.c2 ?_ | refine Sub.c3 ?_ | refine Sub.c4 ?_ | refine Sub.c5 ?_ | refine Sub.c6 ?_ | refine Sub.c7 ?_ | refine Sub.c8 ?_ | refine Sub.c9 ?_ | refine Sub.skip ?_))
          have HFN := Lib.hid (HFL.out cb HCB.out)
          go_wp2
          go_roundw
          case rel => exact ⟨k + 1, _, hlt, by go_num, HFN, hs⟩
          case measure => simp [intOf]; omega
    · obtain rfl : n = k := by omega
      replace hs : sat W (tx t x :: H) wr := by (refine sat_from ?_ hs; repeat (first | exact Sub.refl _ | exact Sub.nil _ | refine Sub.c0 ?_ | refine Sub.c1 ?_ | refine Sub.c2 ?_ | refine Sub.c3 ?_ | refine Sub.c4 ?_ | refine Sub.c5 ?_ | refine Sub.c6 ?_ | refine Sub.c7 ?_ | refine Sub.c8 ?_ | refine Sub.c9 ?_ | refine Sub.skip ?_))
      clear HL2 HCS
      obtain ⟨ws, hws⟩ : ∃ ws, words x.blank = ws := ⟨_, rfl⟩
      have HWS := Lib.hid hws
      have HWB : Hid (words ((cl L).map isB) = ws) := Lib.hid (by rw [← HBL.out]; exact hws)
      have hwl : ws.length ≤ 600 := by have := words_len x.blank _ 0 rfl; rw [← hws]; unfold words; have := HB.out; omega
      obtain ⟨nW, hnW⟩ : ∃ k, ws.length = k := ⟨_, rfl⟩
      rw [hnW] at hwl
      have HLw := Lib.hid hnW
      obtain ⟨l1, hl1⟩ : ∃ l, rpart (cl L) 0 (trim ((cl L).map isB)) = l := ⟨_, rfl⟩
      obtain ⟨l2, hl2⟩ : ∃ l, rpart (cl L) fr to_ = l := ⟨_, rfl⟩
      have HQ1 := Lib.hid hl1
      have HQ2 := Lib.hid hl2
      have HE1 : Hid (x.part 0 (trim x.blank) = l1) := Lib.hid (by rw [HPT.out, HBL.out]; exact hl1)
      have HE2 : Hid (x.part fr to_ = l2) := Lib.hid (by rw [HPT.out]; exact hl2)
      have h1 : l1.length ≤ 600 := by rw [← hl1]; exact Nat.le_trans (rpart_le _ _ _) HZ.out
      have h2 : l2.length ≤ 600 := by rw [← hl2]; exact Nat.le_trans (rpart_le _ _ _) HZ.out
      obtain ⟨n0, hn0⟩ : ∃ k, x.runes.length = k := ⟨_, rfl⟩
      obtain ⟨n1, hn1⟩ : ∃ k, l1.length = k := ⟨_, rfl⟩
      obtain ⟨n2, hn2⟩ : ∃ k, l2.length = k := ⟨_, rfl⟩
      rw [hn0] at hrl
      rw [hn1] at h1
      rw [hn2] at h2
      have HL0 := Lib.hid hn0
      have HL1 := Lib.hid hn1
      have HL2 := Lib.hid hn2
      clear hws hnW hl1 hl2 hn0 hn1 hn2
      go_wp2
      have hs := hs
      go_loopw [71] (fun i wr => ∃ k : Nat, k ≤ 2 ∧ i = .int .i64 (k : Int) ∧ sat W (tx t x :: H) wr) (fun i _ => ((2 : Int) - intOf i).toNat)
      case atStart => exact ⟨0, by omega, rfl, hs⟩
      case round =>
        clear hs
        obtain ⟨k, hk, rfl, hs⟩ := hrel
        by_cases hlt : k < 2
        · have hk2 : (k : Int) < 2 := by omega
          go_upto_region 19 with (first | (go_at_call 10; (first | refine (runes_t rfl HL0.out HX.out HK1.out hs.b0).mono ?_ | refine (runes_t rfl HL0.out HX.out HK1.out hs.b1).mono ?_ | refine (runes_t rfl HL0.out HX.out HK1.out hs.b2).mono ?_ | refine (runes_t rfl HL0.out HX.out HK1.out hs.b3).mono ?_); clear hs; rintro e w ⟨a0, c0, rfl, hs⟩) | (go_at_call 20; (first | refine (trim_n HL1.out HX.out HK1.out HK2.out HE1.out hs.b0).mono ?_ | refine (trim_n HL1.out HX.out HK1.out HK2.out HE1.out hs.b1).mono ?_ | refine (trim_n HL1.out HX.out HK1.out HK2.out HE1.out hs.b2).mono ?_ | refine (trim_n HL1.out HX.out HK1.out HK2.out HE1.out hs.b3).mono ?_); clear hs; rintro e w ⟨a1, c1, rfl, hs⟩) | (go_at_call 21; (first | refine (part_n HL2.out HX.out HK1.out HE2.out hs.b0).mono ?_ | refine (part_n HL2.out HX.out HK1.out HE2.out hs.b1).mono ?_ | refine (part_n HL2.out HX.out HK1.out HE2.out hs.b2).mono ?_ | refine (part_n HL2.out HX.out HK1.out HE2.out hs.b3).mono ?_); clear hs; rintro e w ⟨a2, c2, rfl, hs⟩) | ((with_reducible refine isl ?_); first | ((with_reducible refine wrap hs ?_); clear hs; intro w hs) | ((with_reducible refine wrapn hs ?_); clear hs; intro w hs) | ((with_reducible refine wrapd hs ?_); clear hs; intro w hs)))
          replace hs : sat W (tx t x :: own 21 1 (.slice a2 n2 c2) n2 (i32s l2) :: own 21 1 (.slice a1 n1 c1) n1 (i32s l1) :: own 21 1 (.slice a0 n0 c0) n0 (i32s x.runes) :: H) w := by (refine sat_from ?_ hs; repeat (first | exact Sub.refl _ | exact Sub.nil _ | refine Sub.c0 ?_ | refine Sub.c1 ?_ | refine Sub.c2 ?_ | refine Sub.c3 ?_ | refine Sub.c4 ?_ | refine Sub.c5 ?_ | refine Sub.c6 ?_ | refine Sub.c7 ?_ | refine Sub.c8 ?_ | refine Sub.c9 ?_ | refine Sub.skip ?_))
          go_upto_region 21 with (first | (go_at_call 12; (first | refine (coln_t HB.out hs.b0).mono ?_ | refine (coln_t HB.out hs.b1).mono ?_ | refine (coln_t HB.out hs.b2).mono ?_ | refine (coln_t HB.out hs.b3).mono ?_ | refine (coln_t HB.out hs.b4).mono ?_ | refine (coln_t HB.out hs.b5).mono ?_); clear hs; rintro e w ⟨rfl, hs⟩) | (go_at_call 23; refine (rpart_n HRA.out HL0.out HC.out.more.more.more.more HZ.out hs).mono ?_; clear hs; rintro e w ⟨q5, r5, rfl, hs⟩) | (go_at_call 23; refine (rpart_n HQ2.out HL2.out HC.out.more.more.more.more.more.more HZ.out hs).mono ?_; clear hs; rintro e w ⟨q7, r7, rfl, hs⟩) | (go_at_call 24; refine (rtrim_n HQ1.out HL1.out HC.out.more.more.more.more.more HZ.out hs).mono ?_; clear hs; rintro e w ⟨q6, r6, rfl, hs⟩) | (go_at_call 22; refine (runes22_t (xs := x.runes) (hs.b4.own_reads).1 (hs.own_reads).1 hs).mono ?_; clear hs; rintro e w ⟨rfl, hs⟩) | (go_at_call 22; refine (runes22_t (xs := l1) (hs.b4.own_reads).1 (hs.own_reads).1 hs).mono ?_; clear hs; rintro e w ⟨rfl, hs⟩) | (go_at_call 22; refine (runes22_t (xs := l2) (hs.b4.own_reads).1 (hs.own_reads).1 hs).mono ?_; clear hs; rintro e w ⟨rfl, hs⟩) | (go_at_call 14; (first | refine (words_t HWS.out HLw.out HK2.out hs.b0).mono ?_ | refine (words_t HWS.out HLw.out HK2.out hs.b1).mono ?_ | refine (words_t HWS.out HLw.out HK2.out hs.b2).mono ?_ | refine (words_t HWS.out HLw.out HK2.out hs.b3).mono ?_ | refine (words_t HWS.out HLw.out HK2.out hs.b4).mono ?_ | refine (words_t HWS.out HLw.out HK2.out hs.b5).mono ?_); clear hs; rintro e w ⟨aW, cW, rfl, hs⟩) | (go_at_call 26; refine (rwords_t HC.out.more.more.more.more.more.more.more.more HZ.out HWB.out HLw.out hs).mono ?_; clear hs; rintro e w ⟨aV, cV, rfl, hs⟩) | (go_at_call 25; refine (ext25 (n := nW) (L := ws) ((exs_sr hs.b1).mono (fun _ h => h.b1)) (exs_sr hs) (by omega) hs).mono ?_; clear hs; rintro e w ⟨rfl, hs⟩) | ((with_reducible refine isl ?_); first | ((with_reducible refine wrap hs ?_); clear hs; intro w hs) | ((with_reducible refine wrapn hs ?_); clear hs; intro w hs) | ((with_reducible refine wrapd hs ?_); clear hs; intro w hs)))
          replace hs : sat W (own 21 1 (.slice a0 n0 c0) n0 (i32s x.runes) :: own 21 1 (.slice a1 n1 c1) n1 (i32s l1) :: own 21 1 (.slice a2 n2 c2) n2 (i32s l2) :: tx t x :: H) w := by (refine sat_from ?_ hs; repeat (first | exact Sub.refl _ | exact Sub.nil _ | refine Sub.c0 ?_ | refine Sub.c1 ?_ | refine Sub.c2 ?_ | refine Sub.c3 ?_ | refine Sub.c4 ?_ | refine Sub.c5 ?_ | refine Sub.c6 ?_ | refine Sub.c7 ?_ | refine Sub.c8 ?_ | refine Sub.c9 ?_ | refine Sub.skip ?_))
          go_wp2
          go_loopw [123] (fun i wr => ∃ k2 : Nat, k2 ≤ 3 ∧ i = .int .i64 (k2 : Int) ∧ ∃ y0 y1 y2 : List Int, (y0.length = n0 ∧ y1.length = n1 ∧ y2.length = n2) ∧ sat W (own 21 1 (.slice a0 n0 c0) n0 (i32s y0) :: own 21 1 (.slice a1 n1 c1) n1 (i32s y1) :: own 21 1 (.slice a2 n2 c2) n2 (i32s y2) :: tx t x :: H) wr) (fun i _ => ((3 : Int) - intOf i).toNat)
          case atStart => exact ⟨0, by omega, rfl, x.runes, l1, l2, ⟨HL0.out, HL1.out, HL2.out⟩, hs⟩
          case round =>
            clear hs
            obtain ⟨k2, hk3, rfl, hinv⟩ := hrel
            by_cases hlt2 : k2 < 3
            · obtain ⟨ad, q, c, cb0, R, hv2, hq6, hs, hfrom⟩ : ∃ (ad : Option Addr) (q c : Nat) (cb : List Int) (R : List HProp), (#[Value.slice a0 n0 c0, .slice a1 n1 c1, .slice a2 n2 c2] : Array Value)[k2]? = some (.slice ad q c) ∧ (cb.length = q ∧ q ≤ 600) ∧ sat W (own 21 1 (.slice ad q c) q (i32s cb) :: R) wr ∧ (∀ w (cb' : List Int), cb'.length = q → sat W (own 21 1 (.slice ad q c) q (i32s cb') :: R) w → ∃ y0 y1 y2 : List Int, (y0.length = n0 ∧ y1.length = n1 ∧ y2.length = n2) ∧ sat W (own 21 1 (.slice a0 n0 c0) n0 (i32s y0) :: own 21 1 (.slice a1 n1 c1) n1 (i32s y1) :: own 21 1 (.slice a2 n2 c2) n2 (i32s y2) :: tx t x :: H) w) := by
                obtain ⟨y0, y1, y2, ⟨e0, e1, e2⟩, hs⟩ := hinv
                have h3 : k2 = 0 ∨ k2 = 1 ∨ k2 = 2 := by omega
                rcases h3 with rfl | rfl | rfl
                · exact ⟨a0, n0, c0, y0, _, rfl, ⟨e0, hrl⟩, hs, fun w cb' h hw => ⟨cb', y1, y2, ⟨h, e1, e2⟩, hw⟩⟩
                · exact ⟨a1, n1, c1, y1, _, rfl, ⟨e1, h1⟩, hs.b1, fun w cb' h hw => ⟨y0, cb', y2, ⟨e0, h, e2⟩, hw.b1⟩⟩
                · exact ⟨a2, n2, c2, y2, _, rfl, ⟨e2, h2⟩, hs.b2, fun w cb' h hw => ⟨y0, y1, cb', ⟨e0, e1, h⟩, hw.b2.b2⟩⟩
              have HV2 := Lib.hid hv2
              have HFR := Lib.hid hfrom
              have hlt3 : (k2 : Int) < 3 := by omega
              obtain ⟨hcb, hq6⟩ := hq6
              have HCB0 := Lib.hid hcb
              clear hv2 hfrom hcb hinv
              go_wp2_with (first | (apply ix55; exact rfl; exact rfl; exact rfl; exact rfl; exact hlt2; exact HV2.out) | ((with_reducible refine isl ?_); first | ((with_reducible refine wrap hs ?_); clear hs; intro w hs) | ((with_reducible refine wrapn hs ?_); clear hs; intro w hs) | ((with_reducible refine wrapd hs ?_); clear hs; intro w hs)))
              have hs := hs
              go_loopw [128] (fun i wr => ∃ (j : Nat) (cb : List Int), j ≤ q ∧ i = .int .i64 (j : Int) ∧ Hid (cb.length = q) ∧ sat W (own 21 1 (.slice ad q c) q (i32s cb) :: R) wr) (fun i _ => ((q : Int) - intOf i).toNat)
              case atStart => exact ⟨0, cb0, Nat.zero_le _, rfl, HCB0, hs⟩
              case round =>
                clear hs
                obtain ⟨j, cb, hj, rfl, HCB, hs⟩ := hrel
                by_cases hjl : j < q
                · obtain ⟨gm, cm, e⟩ := hs.own_some (by omega)
                  cases e
                  have hjc : j < cb.length := by rw [HCB.out]; exact hjl
                  have HV := Lib.hid (i32_get hjc)
                  have HIS := Lib.hid (i32s_is hjc)
                  have HLS : Hid (∀ v : Int, (cb.set j v).length = q) := Lib.hid (fun v => by rw [List.length_set]; exact HCB.out)
                  generalize cb.getD j 0 = y at HV
                  have hjn : (j : Int) < (q : Int) := by omega
                  clear hjc
                  go_wp2_with (first | ((with_reducible refine isl ?_); first | ((with_reducible apply ldo hs.b0); exact rfl; exact rfl; exact rfl; exact HV.out; exact one21) | ((with_reducible apply sto hs); exact rfl; exact rfl; exact rfl; exact rfl; exact rfl; exact HIS.out; exact one21; exact rfl; clear hs; intro w hs; rw [i32s_set] at hs) | ((with_reducible refine wrap hs ?_); clear hs; intro w hs) | ((with_reducible refine wrapn hs ?_); clear hs; intro w hs) | ((with_reducible refine wrapd hs ?_); clear hs; intro w hs)))
                  go_roundw
                  case rel => exact ⟨j + 1, _, hjl, by go_num, Lib.hid (HLS.out _), hs⟩
                  case measure => simp [intOf]; omega
                · have hinv := HFR.out _ cb HCB.out hs
                  obtain rfl : q = j := by omega
                  go_wp2
                  go_roundw
                  case rel => exact ⟨k2 + 1, by omega, by go_num, hinv⟩
                  case measure => simp [intOf]; omega
            · obtain rfl : k2 = 3 := by omega
              obtain ⟨y0, y1, y2, _, hs⟩ := hinv
              go_wp2
              go_roundw
              case rel => exact ⟨k + 1, by omega, by go_num, hs.dropN 3⟩
              case measure => simp [intOf]; omega
        · have hk2 : ¬ (k : Int) < 2 := by omega
          clear HLw HQ1 HQ2 HE1 HE2 h1 h2
          go_wp2
          have hs := hs
          go_loopw [18] (fun i wr => ∃ k : Nat, k ≤ n + 3 ∧ i = .int .i64 ((k : Int) - 1) ∧ sat W (tx t x :: H) wr) (fun i _ => ((n : Int) + 3 - intOf i).toNat)
          case atStart => exact ⟨0, Nat.zero_le _, by go_num, hs⟩
          case round =>
            clear hs
            obtain ⟨k6, hk6, hi6, hs⟩ := hrel
            by_cases hlt6 : k6 < n + 3
            · have h3 : k6 = 0 ∨ k6 = 1 ∨ ∃ j, k6 = j + 2 := by
                rcases k6 with _ | _ | j
                · exact .inl rfl
                · exact .inr (.inl rfl)
                · exact .inr (.inr ⟨j, rfl⟩)
              rcases h3 with rfl | rfl | ⟨j, rfl⟩
              · rw [show ((0 : Nat) : Int) - 1 = -1 from rfl] at hi6
                subst hi6
                obtain ⟨yv, bv, hwv⟩ : ∃ (y : Nat × Nat) (b : Bool), wordV (wordW ws (-1)) = .tuple #[exV y, .bool b] := by
                  cases wordW ws (-1) with
                  | none => exact ⟨_, _, rfl⟩
                  | some y => exact ⟨_, _, rfl⟩
                have HWV := Lib.hid hwv
                obtain ⟨yv1, yv2⟩ := yv
                have hbb : (bv != bv) = false := by simp
                obtain ⟨nx, hnx⟩ : ∃ r, nextW ws (-1) = r := ⟨_, rfl⟩
                obtain ⟨pr, hpr⟩ : ∃ r, prevW ws (-1) = r := ⟨_, rfl⟩
                have HNX := Lib.hid hnx
                have HPR := Lib.hid hpr
                have HPK : Hid ((0 : Int) = ((0 : Nat) : Int)) := Lib.hid (by omega)
                have HPV : Hid (x.place (-1) = 0) := Lib.hid place_neg
                have HRP : Hid ((if n ≤ 0 then (rpart (cl L) 0 n).length else (rpart (cl L) 0 (back (cl L) 0)).length) = 0) := Lib.hid (place_nil HN.out)
                clear hwv hnx hpr
                go_wp2_with (first | (go_at_call 17; (first | refine (word_v HWS.out HWV.out HK2.out hs.b0).mono ?_ | refine (word_v HWS.out HWV.out HK2.out hs.b1).mono ?_ | refine (word_v HWS.out HWV.out HK2.out hs.b2).mono ?_ | refine (word_v HWS.out HWV.out HK2.out hs.b3).mono ?_); clear hs; rintro e w ⟨rfl, hs⟩) | (go_at_call 27; refine (rword_v HC.out.more.more HZ.out HWB.out HWV.out hs).mono ?_; clear hs; rintro e w ⟨rfl, hs⟩) | (go_at_call 13; (first | refine (place_t HPV.out HX.out HK2.out hs.b0).mono ?_ | refine (place_t HPV.out HX.out HK2.out hs.b1).mono ?_ | refine (place_t HPV.out HX.out HK2.out hs.b2).mono ?_ | refine (place_t HPV.out HX.out HK2.out hs.b3).mono ?_); clear hs; rintro e w ⟨rfl, hs⟩) | (go_at_call 28; refine (rplace_t HPK.out HC.out.more.more.more HZ.out HRP.out hs).mono ?_; clear hs; rintro e w ⟨rfl, hs⟩) | (go_at_call 15; (first | refine (next_t HWS.out HNX.out HK2.out hs.b0).mono ?_ | refine (next_t HWS.out HNX.out HK2.out hs.b1).mono ?_ | refine (next_t HWS.out HNX.out HK2.out hs.b2).mono ?_ | refine (next_t HWS.out HNX.out HK2.out hs.b3).mono ?_); clear hs; rintro e w ⟨rfl, hs⟩) | (go_at_call 29; refine (rnext29 HC.out.more.more.more HZ.out HWB.out HNX.out hs).mono ?_; clear hs; rintro e w ⟨rfl, hs⟩) | (go_at_call 16; (first | refine (prev_t HWS.out HPR.out HK2.out hs.b0).mono ?_ | refine (prev_t HWS.out HPR.out HK2.out hs.b1).mono ?_ | refine (prev_t HWS.out HPR.out HK2.out hs.b2).mono ?_ | refine (prev_t HWS.out HPR.out HK2.out hs.b3).mono ?_); clear hs; rintro e w ⟨rfl, hs⟩) | (go_at_call 30; refine (rprev30 HC.out.more.more.more HZ.out HWB.out HPR.out hs).mono ?_; clear hs; rintro e w ⟨rfl, hs⟩) | ((with_reducible refine isl ?_); first | ((with_reducible apply stsw hs); exact rfl; exact rfl; exact rfl; exact rfl; exact row41; exact rfl; exact rfl; exact rfl; clear hs; intro w hs) | ((with_reducible apply ldsw hs.b0); exact rfl; exact rfl; exact rfl; exact row41) | ((with_reducible apply ldsw hs.b1); exact rfl; exact rfl; exact rfl; exact row41) | ((with_reducible apply ldsw hs.b2); exact rfl; exact rfl; exact rfl; exact row41) | ((with_reducible apply ldsw hs.b3); exact rfl; exact rfl; exact rfl; exact row41) | ((with_reducible refine wrap hs ?_); clear hs; (first | (have _t := z19; clear _t; generalize w.heap.size = z21) | generalize w.heap.size = z19); intro w hs) | ((with_reducible refine wrap hs ?_); clear hs; intro w hs) | ((with_reducible refine wrapn hs ?_); clear hs; intro w hs) | ((with_reducible refine wrapd hs ?_); clear hs; intro w hs)))
                go_roundw
                case rel => exact ⟨1, by omega, by go_num, by (refine sat_from ?_ hs; repeat (first | exact Sub.refl _ | exact Sub.nil _ | refine Sub.c0 ?_ | refine Sub.c1 ?_ | refine Sub.c2 ?_ | refine Sub.c3 ?_ | refine Sub.c4 ?_ | refine Sub.c5 ?_ | refine Sub.c6 ?_ | refine Sub.c7 ?_ | refine Sub.c8 ?_ | refine Sub.c9 ?_ | refine Sub.skip ?_))⟩
                case measure => simp [intOf]; omega
              · rw [show ((1 : Nat) : Int) - 1 = 0 from rfl] at hi6
                subst hi6
                obtain ⟨yv, bv, hwv⟩ : ∃ (y : Nat × Nat) (b : Bool), wordV (wordW ws (0)) = .tuple #[exV y, .bool b] := by
                  cases wordW ws (0) with
                  | none => exact ⟨_, _, rfl⟩
                  | some y => exact ⟨_, _, rfl⟩
                have HWV := Lib.hid hwv
                obtain ⟨yv1, yv2⟩ := yv
                have hbb : (bv != bv) = false := by simp
                obtain ⟨nx, hnx⟩ : ∃ r, nextW ws (0) = r := ⟨_, rfl⟩
                obtain ⟨pr, hpr⟩ : ∃ r, prevW ws (0) = r := ⟨_, rfl⟩
                have HNX := Lib.hid hnx
                have HPR := Lib.hid hpr
                have HPK : Hid ((0 : Int) = ((0 : Nat) : Int)) := Lib.hid (by omega)
                obtain ⟨pv, hpv⟩ : ∃ p, x.place 0 = p := ⟨_, rfl⟩
                have HPV := Lib.hid hpv
                have HRP : Hid ((if n ≤ 0 then (rpart (cl L) 0 n).length else (rpart (cl L) 0 (back (cl L) 0)).length) = pv) := Lib.hid ((HPL.out 0).trans hpv)
                clear hpv
                clear hwv hnx hpr
                go_wp2_with (first | (go_at_call 17; (first | refine (word_v HWS.out HWV.out HK2.out hs.b0).mono ?_ | refine (word_v HWS.out HWV.out HK2.out hs.b1).mono ?_ | refine (word_v HWS.out HWV.out HK2.out hs.b2).mono ?_ | refine (word_v HWS.out HWV.out HK2.out hs.b3).mono ?_); clear hs; rintro e w ⟨rfl, hs⟩) | (go_at_call 27; refine (rword_v HC.out.more.more HZ.out HWB.out HWV.out hs).mono ?_; clear hs; rintro e w ⟨rfl, hs⟩) | (go_at_call 13; (first | refine (place_t HPV.out HX.out HK2.out hs.b0).mono ?_ | refine (place_t HPV.out HX.out HK2.out hs.b1).mono ?_ | refine (place_t HPV.out HX.out HK2.out hs.b2).mono ?_ | refine (place_t HPV.out HX.out HK2.out hs.b3).mono ?_); clear hs; rintro e w ⟨rfl, hs⟩) | (go_at_call 28; refine (rplace_t HPK.out HC.out.more.more.more HZ.out HRP.out hs).mono ?_; clear hs; rintro e w ⟨rfl, hs⟩) | (go_at_call 15; (first | refine (next_t HWS.out HNX.out HK2.out hs.b0).mono ?_ | refine (next_t HWS.out HNX.out HK2.out hs.b1).mono ?_ | refine (next_t HWS.out HNX.out HK2.out hs.b2).mono ?_ | refine (next_t HWS.out HNX.out HK2.out hs.b3).mono ?_); clear hs; rintro e w ⟨rfl, hs⟩) | (go_at_call 29; refine (rnext29 HC.out.more.more.more HZ.out HWB.out HNX.out hs).mono ?_; clear hs; rintro e w ⟨rfl, hs⟩) | (go_at_call 16; (first | refine (prev_t HWS.out HPR.out HK2.out hs.b0).mono ?_ | refine (prev_t HWS.out HPR.out HK2.out hs.b1).mono ?_ | refine (prev_t HWS.out HPR.out HK2.out hs.b2).mono ?_ | refine (prev_t HWS.out HPR.out HK2.out hs.b3).mono ?_); clear hs; rintro e w ⟨rfl, hs⟩) | (go_at_call 30; refine (rprev30 HC.out.more.more.more HZ.out HWB.out HPR.out hs).mono ?_; clear hs; rintro e w ⟨rfl, hs⟩) | ((with_reducible refine isl ?_); first | ((with_reducible apply stsw hs); exact rfl; exact rfl; exact rfl; exact rfl; exact row41; exact rfl; exact rfl; exact rfl; clear hs; intro w hs) | ((with_reducible apply ldsw hs.b0); exact rfl; exact rfl; exact rfl; exact row41) | ((with_reducible apply ldsw hs.b1); exact rfl; exact rfl; exact rfl; exact row41) | ((with_reducible apply ldsw hs.b2); exact rfl; exact rfl; exact rfl; exact row41) | ((with_reducible apply ldsw hs.b3); exact rfl; exact rfl; exact rfl; exact row41) | ((with_reducible refine wrap hs ?_); clear hs; (first | (have _t := z19; clear _t; generalize w.heap.size = z21) | generalize w.heap.size = z19); intro w hs) | ((with_reducible refine wrap hs ?_); clear hs; intro w hs) | ((with_reducible refine wrapn hs ?_); clear hs; intro w hs) | ((with_reducible refine wrapd hs ?_); clear hs; intro w hs)))
                go_roundw
                case rel => exact ⟨2, by omega, by go_num, by (refine sat_from ?_ hs; repeat (first | exact Sub.refl _ | exact Sub.nil _ | refine Sub.c0 ?_ | refine Sub.c1 ?_ | refine Sub.c2 ?_ | refine Sub.c3 ?_ | refine Sub.c4 ?_ | refine Sub.c5 ?_ | refine Sub.c6 ?_ | refine Sub.c7 ?_ | refine Sub.c8 ?_ | refine Sub.c9 ?_ | refine Sub.skip ?_))⟩
                case measure => simp [intOf]; omega
              · rw [show ((j + 2 : Nat) : Int) - 1 = (j : Int) + 1 by omega] at hi6
                subst hi6
                have hj1 : (j : Int) + 1 ≤ (n : Int) + 1 := by omega
                have hj2 : 0 < (j : Int) + 1 := by omega
                obtain ⟨yv, bv, hwv⟩ : ∃ (y : Nat × Nat) (b : Bool), wordV (wordW ws ((j : Int) + 1)) = .tuple #[exV y, .bool b] := by
                  cases wordW ws ((j : Int) + 1) with
                  | none => exact ⟨_, _, rfl⟩
                  | some y => exact ⟨_, _, rfl⟩
                have HWV := Lib.hid hwv
                obtain ⟨yv1, yv2⟩ := yv
                have hbb : (bv != bv) = false := by simp
                obtain ⟨nx, hnx⟩ : ∃ r, nextW ws ((j : Int) + 1) = r := ⟨_, rfl⟩
                obtain ⟨pr, hpr⟩ : ∃ r, prevW ws ((j : Int) + 1) = r := ⟨_, rfl⟩
                have HNX := Lib.hid hnx
                have HPR := Lib.hid hpr
                have HPK : Hid (((j : Int) + 1 : Int) = (((j + 1) : Nat) : Int)) := Lib.hid (by omega)
                obtain ⟨pv, hpv⟩ : ∃ p, x.place ((j : Int) + 1) = p := ⟨_, rfl⟩
                have HPV := Lib.hid hpv
                have HRP : Hid ((if n ≤ j + 1 then (rpart (cl L) 0 n).length else (rpart (cl L) 0 (back (cl L) (j + 1))).length) = pv) := Lib.hid ((HPL.out (j + 1)).trans hpv)
                clear hpv
                clear hwv hnx hpr
                go_wp2_with (first | (go_at_call 17; (first | refine (word_v HWS.out HWV.out HK2.out hs.b0).mono ?_ | refine (word_v HWS.out HWV.out HK2.out hs.b1).mono ?_ | refine (word_v HWS.out HWV.out HK2.out hs.b2).mono ?_ | refine (word_v HWS.out HWV.out HK2.out hs.b3).mono ?_); clear hs; rintro e w ⟨rfl, hs⟩) | (go_at_call 27; refine (rword_v HC.out.more.more HZ.out HWB.out HWV.out hs).mono ?_; clear hs; rintro e w ⟨rfl, hs⟩) | (go_at_call 13; (first | refine (place_t HPV.out HX.out HK2.out hs.b0).mono ?_ | refine (place_t HPV.out HX.out HK2.out hs.b1).mono ?_ | refine (place_t HPV.out HX.out HK2.out hs.b2).mono ?_ | refine (place_t HPV.out HX.out HK2.out hs.b3).mono ?_); clear hs; rintro e w ⟨rfl, hs⟩) | (go_at_call 28; refine (rplace_t HPK.out HC.out.more.more.more HZ.out HRP.out hs).mono ?_; clear hs; rintro e w ⟨rfl, hs⟩) | (go_at_call 15; (first | refine (next_t HWS.out HNX.out HK2.out hs.b0).mono ?_ | refine (next_t HWS.out HNX.out HK2.out hs.b1).mono ?_ | refine (next_t HWS.out HNX.out HK2.out hs.b2).mono ?_ | refine (next_t HWS.out HNX.out HK2.out hs.b3).mono ?_); clear hs; rintro e w ⟨rfl, hs⟩) | (go_at_call 29; refine (rnext29 HC.out.more.more.more HZ.out HWB.out HNX.out hs).mono ?_; clear hs; rintro e w ⟨rfl, hs⟩) | (go_at_call 16; (first | refine (prev_t HWS.out HPR.out HK2.out hs.b0).mono ?_ | refine (prev_t HWS.out HPR.out HK2.out hs.b1).mono ?_ | refine (prev_t HWS.out HPR.out HK2.out hs.b2).mono ?_ | refine (prev_t HWS.out HPR.out HK2.out hs.b3).mono ?_); clear hs; rintro e w ⟨rfl, hs⟩) | (go_at_call 30; refine (rprev30 HC.out.more.more.more HZ.out HWB.out HPR.out hs).mono ?_; clear hs; rintro e w ⟨rfl, hs⟩) | ((with_reducible refine isl ?_); first | ((with_reducible apply stsw hs); exact rfl; exact rfl; exact rfl; exact rfl; exact row41; exact rfl; exact rfl; exact rfl; clear hs; intro w hs) | ((with_reducible apply ldsw hs.b0); exact rfl; exact rfl; exact rfl; exact row41) | ((with_reducible apply ldsw hs.b1); exact rfl; exact rfl; exact rfl; exact row41) | ((with_reducible apply ldsw hs.b2); exact rfl; exact rfl; exact rfl; exact row41) | ((with_reducible apply ldsw hs.b3); exact rfl; exact rfl; exact rfl; exact row41) | ((with_reducible refine wrap hs ?_); clear hs; (first | (have _t := z19; clear _t; generalize w.heap.size = z21) | generalize w.heap.size = z19); intro w hs) | ((with_reducible refine wrap hs ?_); clear hs; intro w hs) | ((with_reducible refine wrapn hs ?_); clear hs; intro w hs) | ((with_reducible refine wrapd hs ?_); clear hs; intro w hs)))
                go_roundw
                case rel => exact ⟨j + 3, by omega, by go_num, by (refine sat_from ?_ hs; repeat (first | exact Sub.refl _ | exact Sub.nil _ | refine Sub.c0 ?_ | refine Sub.c1 ?_ | refine Sub.c2 ?_ | refine Sub.c3 ?_ | refine Sub.c4 ?_ | refine Sub.c5 ?_ | refine Sub.c6 ?_ | refine Sub.c7 ?_ | refine Sub.c8 ?_ | refine Sub.c9 ?_ | refine Sub.skip ?_))⟩
                case measure => simp [intOf]; omega
            · obtain rfl : k6 = n + 3 := by omega
              rw [show ((n + 3 : Nat) : Int) - 1 = (n : Int) + 2 by omega] at hi6
              subst hi6
              have HLN : Hid ((rpart (cl L) 0 n).length = n0) := Lib.hid (by rw [HRA.out]; exact HL0.out)
              clear HPL HWS HWB
              go_wp2
              have hs := hs
              go_loopw [23] (fun i wr => ∃ k7 : Nat, k7 ≤ n0 + 3 ∧ i = .int .i64 ((k7 : Int) - 1) ∧ sat W (tx t x :: H) wr) (fun i _ => ((n0 : Int) + 3 - intOf i).toNat)
              case atStart => exact ⟨0, Nat.zero_le _, by go_num, hs⟩
              case round =>
                clear hs
                obtain ⟨k7, hk7, hi7, hs⟩ := hrel
                by_cases hlt7 : k7 < n0 + 3
                · have h3 : k7 = 0 ∨ ∃ j, k7 = j + 1 := by
                    rcases k7 with _ | j
                    · exact .inl rfl
                    · exact .inr ⟨j, rfl⟩
                  rcases h3 with rfl | ⟨j, rfl⟩
                  · rw [show ((0 : Nat) : Int) - 1 = -1 from rfl] at hi7
                    subst hi7
                    obtain ⟨cv, hcv⟩ : ∃ r, x.col (-1) = r := ⟨_, rfl⟩
                    have HCV := Lib.hid hcv
                    have HCW : Hid ((textOf (cl L)).col (-1) = cv) := Lib.hid (by rw [HT.out]; exact hcv)
                    clear hcv
                    go_wp2_with (first | (go_at_call 23; refine (rlen_t HC.out.more HZ.out HLN.out hs).mono ?_; clear hs; rintro e w ⟨a9, c9, rfl, hs⟩) | (go_at_call 11; (first | refine (col_t HCV.out hs.b0).mono ?_ | refine (col_t HCV.out hs.b1).mono ?_ | refine (col_t HCV.out hs.b2).mono ?_); clear hs; rintro e w ⟨rfl, hs⟩) | (go_at_call 31; refine (rcol31 HC.out.more HZ.out HCW.out hs).mono ?_; clear hs; rintro e w ⟨rfl, hs⟩) | ((with_reducible refine isl ?_); first | ((with_reducible refine wrap hs ?_); clear hs; intro w hs) | ((with_reducible refine wrapn hs ?_); clear hs; intro w hs) | ((with_reducible refine wrapd hs ?_); clear hs; intro w hs)))
                    go_roundw
                    case rel => exact ⟨1, by omega, by go_num, by (refine sat_from ?_ hs; repeat (first | exact Sub.refl _ | exact Sub.nil _ | refine Sub.c0 ?_ | refine Sub.c1 ?_ | refine Sub.c2 ?_ | refine Sub.c3 ?_ | refine Sub.c4 ?_ | refine Sub.c5 ?_ | refine Sub.c6 ?_ | refine Sub.c7 ?_ | refine Sub.c8 ?_ | refine Sub.c9 ?_ | refine Sub.skip ?_))⟩
                    case measure => simp [intOf]; omega
                  · rw [show ((j + 1 : Nat) : Int) - 1 = (j : Int) by omega] at hi7
                    subst hi7
                    have hj1 : (j : Int) ≤ (n0 : Int) + 1 := by omega
                    obtain ⟨cv, hcv⟩ : ∃ r, x.col ((j : Int)) = r := ⟨_, rfl⟩
                    have HCV := Lib.hid hcv
                    have HCW : Hid ((textOf (cl L)).col ((j : Int)) = cv) := Lib.hid (by rw [HT.out]; exact hcv)
                    clear hcv
                    go_wp2_with (first | (go_at_call 23; refine (rlen_t HC.out.more HZ.out HLN.out hs).mono ?_; clear hs; rintro e w ⟨a9, c9, rfl, hs⟩) | (go_at_call 11; (first | refine (col_t HCV.out hs.b0).mono ?_ | refine (col_t HCV.out hs.b1).mono ?_ | refine (col_t HCV.out hs.b2).mono ?_); clear hs; rintro e w ⟨rfl, hs⟩) | (go_at_call 31; refine (rcol31 HC.out.more HZ.out HCW.out hs).mono ?_; clear hs; rintro e w ⟨rfl, hs⟩) | ((with_reducible refine isl ?_); first | ((with_reducible refine wrap hs ?_); clear hs; intro w hs) | ((with_reducible refine wrapn hs ?_); clear hs; intro w hs) | ((with_reducible refine wrapd hs ?_); clear hs; intro w hs)))
                    go_roundw
                    case rel => exact ⟨j + 2, by omega, by go_num, by (refine sat_from ?_ hs; repeat (first | exact Sub.refl _ | exact Sub.nil _ | refine Sub.c0 ?_ | refine Sub.c1 ?_ | refine Sub.c2 ?_ | refine Sub.c3 ?_ | refine Sub.c4 ?_ | refine Sub.c5 ?_ | refine Sub.c6 ?_ | refine Sub.c7 ?_ | refine Sub.c8 ?_ | refine Sub.c9 ?_ | refine Sub.skip ?_))⟩
                    case measure => simp [intOf]; omega
                · obtain rfl : k7 = n0 + 3 := by omega
                  rw [show ((n0 + 3 : Nat) : Int) - 1 = (n0 : Int) + 2 by omega] at hi7
                  subst hi7
                  have hj1 : ¬ (n0 : Int) + 2 ≤ (n0 : Int) + 1 := by omega
                  go_wp2_with (first | (go_at_call 23; refine (rlen_t HC.out.more HZ.out HLN.out hs).mono ?_; clear hs; rintro e w ⟨a9, c9, rfl, hs⟩) | (go_at_call 8; refine (known8 hs).mono ?_; clear hs; rintro e w ⟨rfl, hs⟩) | ((with_reducible refine isl ?_); first | ((with_reducible refine wrap hs ?_); clear hs; intro w hs) | ((with_reducible refine wrapn hs ?_); clear hs; intro w hs) | ((with_reducible refine wrapd hs ?_); clear hs; intro w hs)))
                  go_ret
                  exact ⟨rfl, hs.drop⟩

end Go.Proofs.Ytdbaiioeaffgaaa
