/- Law 20: a text's part. -/
import Derived.Test.YtcheljogpffabaaSf
import Derived.Test.YtcheljogpffabaaW2
namespace Go.Proofs.Ytcheljogpffabaa
open Go.RowKit Go.Mem Go.Words
variable {W w : World} {H : List HProp}
theorem slty27 : SlTy Try.prog 47 21 1 4 := ⟨Try.underlying47, by obtain ⟨i0, hi, hz0, hz1, hz2⟩ := info_parts (show (Try.prog.info? 21).map (fun i => (i.zero, i.size, i.bytes)) = some (some (.int .i32 0), 1, 4) by kernel_rfl); exact ⟨i0, _, hi, hz0, hz1, hz2, rfl⟩, by decide⟩
theorem slty39 : SlTy Try.prog 28 3 1 8 := ⟨Try.underlying28, by obtain ⟨i0, hi, hz0, hz1, hz2⟩ := info_parts (show (Try.prog.info? 3).map (fun i => (i.zero, i.size, i.bytes)) = some (some (.int .i64 0), 1, 8) by kernel_rfl); exact ⟨i0, _, hi, hz0, hz1, hz2, rfl⟩, by decide⟩
theorem slty59 : SlTy Try.prog 115 4 1 1 := ⟨Try.underlying115, by obtain ⟨i0, hi, hz0, hz1, hz2⟩ := info_parts (show (Try.prog.info? 4).map (fun i => (i.zero, i.size, i.bytes)) = some (some (.bool false), 1, 1) by kernel_rfl); exact ⟨i0, _, hi, hz0, hz1, hz2, rfl⟩, by decide⟩
theorem i32_get {l : List Int} {i : Nat} (h : i < l.length) : (i32s l)[i]? = some (.int .i32 (l.getD i 0)) := ints_get h
abbrev inR (a b : Int) (p : Nat × Int) : Bool := decide (a ≤ (p.1 : Int)) && decide ((p.1 : Int) < b)
theorem part_eq (x : Tx) (a b : Int) : x.part a b = ((x.cols.zip x.runes).filter (inR a b)).map Prod.snd := rfl
theorem take_zip {x : Tx} (hx : x.Ok) {k : Nat} (hk : k < x.cols.length) : (x.cols.zip x.runes).take (k + 1) = (x.cols.zip x.runes).take k ++ [(x.cols.getD k 0, x.runes.getD k 0)] := by
  have h2 : k < x.runes.length := by rw [← hx.hc]; exact hk
  have h3 : k < (x.cols.zip x.runes).length := by simp; omega
  rw [List.take_succ_eq_append_getElem h3, List.getElem_zip, List.getD_eq_getElem?_getD, List.getD_eq_getElem?_getD, List.getElem?_eq_getElem hk, List.getElem?_eq_getElem h2]
  rfl
attribute [local irreducible] World.setCell World.setCells World.alloc World.drew World.drewN Calls sat cel own blk old wpQuiet wpList tx
variable {t : Nat} {x : Tx}
set_option maxHeartbeats 1000000 in
theorem part21 (hx : x.Ok) (hn : x.cols.length ≤ 1000) (fr to_ : Int) (hs : sat W (tx t x :: H) w) :
    Calls Try.prog 60 #[.pointer (some ⟨t, 0, none⟩), .int .i64 fr, .int .i64 to_] w fun e w' => ∃ a c, e = .returned (.slice a (x.part fr to_).length c) ∧ sat W (own 21 1 (.slice a (x.part fr to_).length c) (x.part fr to_).length (i32s (x.part fr to_)) :: tx t x :: H) w' := by
  have HX := Lib.hid hx
  clear hx
  obtain ⟨aR, aP, aC, aB, cR, cP, cC, cB, hs⟩ := hs.tx_open
  go_enter Try.func60, Try.ntmps60
  go_wp2_with (first | ((with_reducible refine isl ?_); first | ((with_reducible apply ldx); exact rfl; exact rfl; exact rfl; exact hs.b0; exact rfl; kernel_rfl) | ((with_reducible apply stx); exact rfl; exact rfl; exact rfl; exact hs.b0; exact rfl; exact rfl; exact rfl; kernel_rfl; exact rfl; clear hs; intro w hs) | ((with_reducible apply stcx); exact rfl; exact rfl; exact rfl; exact hs.b0; exact rfl; exact rfl; kernel_rfl; exact rfl; clear hs; intro w hs) | ((with_reducible refine wrap hs ?_); clear hs; intro w hs) | ((with_reducible refine wrapn hs ?_); clear hs; intro w hs) | ((with_reducible refine wrapd hs ?_); clear hs; intro w hs)))
  have hs := hs.own_nil 21 1
  go_loopw [6, 7, 8, 16] (fun s6 _ _ i wr => ∃ (k : Nat) (acc : List Int) (a : Option Addr) (c : Nat), k ≤ x.cols.length ∧ i = .int .i64 (k : Int) ∧ s6 = .slice a acc.length c ∧ acc.length ≤ k ∧ Hid (acc = (((x.cols.zip x.runes).take k).filter (inR fr to_)).map Prod.snd) ∧
    sat W (own 21 1 (.slice a acc.length c) acc.length (i32s acc) :: cel t 117 (txL x aR aP aC aB cR cP cC cB) :: own 21 1 (.slice aR x.runes.length cR) x.runes.length (i32s x.runes) :: own 3 1 (.slice aP x.places.length cP) x.places.length (nums .i64 x.places) :: own 3 1 (.slice aC x.cols.length cC) x.cols.length (nums .i64 x.cols) :: own 4 1 (.slice aB x.blank.length cB) x.blank.length (bools x.blank) :: H) wr) (fun _ _ _ i _ => ((x.cols.length : Int) - intOf i).toNat)
  case atStart => exact ⟨0, [], none, 0, Nat.zero_le _, rfl, rfl, Nat.le_refl _, Lib.hid (by simp), hs⟩
  case round =>
    clear hs
    obtain ⟨k, acc, a, c, hk, rfl, rfl, hal, HA, hs⟩ := hrel
    by_cases hlt : k < x.cols.length
    · have HT := Lib.hid (take_zip HX.out hlt)
      have HC := Lib.hid (nums_get (k := .i64) hlt)
      have HR := Lib.hid (i32_get (show k < x.runes.length by rw [← HX.out.hc]; exact hlt))
      generalize x.cols.getD k 0 = co at HT HC
      generalize x.runes.getD k 0 = ru at HT HR
      obtain ⟨gC, c5, e⟩ := hs.b4.own_some (by omega)
      cases e
      obtain ⟨gR, c6, e⟩ := hs.b2.own_some (by have := HX.out.hc; omega)
      cases e
      have hlt2 : (k : Int) < (x.runes.length : Int) := by have := HX.out.hc; omega
      by_cases h1 : fr ≤ (co : Int)
      · by_cases h2 : (co : Int) < to_
        · have HA2 : Hid (acc ++ [ru] = (((x.cols.zip x.runes).take (k + 1)).filter (inR fr to_)).map Prod.snd) := Lib.hid (by rw [HT.out, List.filter_append, List.map_append, ← HA.out]; simp [inR, h1, h2])
          clear HA
          go_wp2_with (first | ((with_reducible refine isl ?_); first | ((with_reducible apply ldo hs.b4); exact rfl; exact rfl; exact rfl; exact HC.out; kernel_rfl) | ((with_reducible apply ldo hs.b2); exact rfl; exact rfl; exact rfl; exact HR.out; kernel_rfl) | ((with_reducible apply ldx); exact rfl; exact rfl; exact rfl; (first | exact hs.b0 | exact hs.b1); exact rfl; kernel_rfl) | ((with_reducible apply stx); exact rfl; exact rfl; exact rfl; (first | exact hs.b0 | exact hs.b1); exact rfl; exact rfl; exact rfl; kernel_rfl; exact rfl; clear hs; intro w hs) | ((with_reducible apply stcx); exact rfl; exact rfl; exact rfl; (first | exact hs.b0 | exact hs.b1); exact rfl; exact rfl; kernel_rfl; exact rfl; clear hs; intro w hs) | ((with_reducible apply app hs.b1); exact rfl; exact rfl; exact rfl; exact rfl; exact slty27; exact rfl; exact rfl; decide; omega; unfold maxLen; omega; clear hs; intro g5 c5 w hs) | ((with_reducible refine wrap hs ?_); clear hs; intro w hs) | ((with_reducible refine wrapn hs ?_); clear hs; intro w hs) | ((with_reducible refine wrapd hs ?_); clear hs; intro w hs)))
          go_roundw
          case rel => exact ⟨k + 1, acc ++ [ru], _, _, hlt, by go_num, by rw [List.length_append, List.length_singleton], by simp; omega, HA2, by simp only [List.length_append, List.length_singleton, List.map_append, List.map_cons, List.map_nil]; exact hs⟩
          case measure => simp [intOf]; omega
        · have HA2 : Hid (acc = (((x.cols.zip x.runes).take (k + 1)).filter (inR fr to_)).map Prod.snd) := Lib.hid (by rw [HT.out, List.filter_append, List.map_append, ← HA.out]; simp [inR, h1, h2])
          clear HA
          go_wp2_with (first | ((with_reducible refine isl ?_); first | ((with_reducible apply ldo hs.b4); exact rfl; exact rfl; exact rfl; exact HC.out; kernel_rfl) | ((with_reducible apply ldx); exact rfl; exact rfl; exact rfl; (first | exact hs.b0 | exact hs.b1); exact rfl; kernel_rfl) | ((with_reducible apply stx); exact rfl; exact rfl; exact rfl; (first | exact hs.b0 | exact hs.b1); exact rfl; exact rfl; exact rfl; kernel_rfl; exact rfl; clear hs; intro w hs) | ((with_reducible apply stcx); exact rfl; exact rfl; exact rfl; (first | exact hs.b0 | exact hs.b1); exact rfl; exact rfl; kernel_rfl; exact rfl; clear hs; intro w hs) | ((with_reducible refine wrap hs ?_); clear hs; intro w hs) | ((with_reducible refine wrapn hs ?_); clear hs; intro w hs) | ((with_reducible refine wrapd hs ?_); clear hs; intro w hs)))
          go_roundw
          case rel => exact ⟨k + 1, acc, _, _, hlt, by go_num, rfl, by omega, HA2, hs⟩
          case measure => simp [intOf]; omega
      · have HA2 : Hid (acc = (((x.cols.zip x.runes).take (k + 1)).filter (inR fr to_)).map Prod.snd) := Lib.hid (by rw [HT.out, List.filter_append, List.map_append, ← HA.out]; simp [inR, h1])
        clear HA
        go_wp2_with (first | ((with_reducible refine isl ?_); first | ((with_reducible apply ldo hs.b4); exact rfl; exact rfl; exact rfl; exact HC.out; kernel_rfl) | ((with_reducible apply ldx); exact rfl; exact rfl; exact rfl; (first | exact hs.b0 | exact hs.b1); exact rfl; kernel_rfl) | ((with_reducible apply stx); exact rfl; exact rfl; exact rfl; (first | exact hs.b0 | exact hs.b1); exact rfl; exact rfl; exact rfl; kernel_rfl; exact rfl; clear hs; intro w hs) | ((with_reducible apply stcx); exact rfl; exact rfl; exact rfl; (first | exact hs.b0 | exact hs.b1); exact rfl; exact rfl; kernel_rfl; exact rfl; clear hs; intro w hs) | ((with_reducible refine wrap hs ?_); clear hs; intro w hs) | ((with_reducible refine wrapn hs ?_); clear hs; intro w hs) | ((with_reducible refine wrapd hs ?_); clear hs; intro w hs)))
        go_roundw
        case rel => exact ⟨k + 1, acc, _, _, hlt, by go_num, rfl, by omega, HA2, hs⟩
        case measure => simp [intOf]; omega
    · obtain rfl : k = x.cols.length := by omega
      have HA2 : Hid (x.part fr to_ = acc) := Lib.hid (by rw [HA.out, part_eq, List.take_of_length_le (by simp; omega)])
      go_wp2
      go_ret
      rw [HA2.out]
      exact ⟨_, _, rfl, by have hs := hs.b5.b5.b5.b5.b5.tx_close; exact (by (refine sb_from ?_ hs; repeat constructor))⟩
theorem part21_nil (fr to_ : Int) (hs : sat W H w) : Calls Try.prog 60 #[.pointer none, .int .i64 fr, .int .i64 to_] w fun e w' => e = .returned (.slice none 0 0) ∧ sat W H w' := by
  go_enter Try.func60, Try.ntmps60
  go_wp2
  go_ret
  exact ⟨rfl, hs⟩
theorem trimmed20_nil (hs : sat W H w) : Calls Try.prog 62 #[.pointer none] w fun e w' => e = .returned (.slice none 0 0) ∧ sat W H w' := by
  go_enter Try.func62, Try.ntmps62
  go_wp2_with (first | (go_at_call 61; refine (cols12_nil _).mono ?_; rintro e w' ⟨rfl, rfl⟩) | ((with_reducible refine isl ?_); first | ((with_reducible refine wrap hs ?_); clear hs; intro w hs) | ((with_reducible refine wrapn hs ?_); clear hs; intro w hs) | ((with_reducible refine wrapd hs ?_); clear hs; intro w hs)))
  go_loopw [3] (fun i wr => i = .int .i64 0 ∧ sat W H wr) (fun _ _ => 0)
  case atStart => exact ⟨rfl, hs⟩
  case round =>
    clear hs
    obtain ⟨rfl, hs⟩ := hrel
    go_wp2_with (first | (go_at_call 60; refine (part21_nil _ _ hs).mono ?_; clear hs; rintro e w ⟨rfl, hs⟩) | ((with_reducible refine isl ?_); first | ((with_reducible refine wrap hs ?_); clear hs; intro w hs) | ((with_reducible refine wrapn hs ?_); clear hs; intro w hs) | ((with_reducible refine wrapd hs ?_); clear hs; intro w hs)))
    go_ret
    exact ⟨rfl, hs⟩
theorem part_t {l : List Int} {fr to_ : Int} (hx : x.Ok) (hn : x.cols.length ≤ 1000) (e : x.part fr to_ = l) (hs : sat W (tx t x :: H) w) :
    Calls Try.prog 60 #[.pointer (some ⟨t, 0, none⟩), .int .i64 fr, .int .i64 to_] w fun e w' => ∃ a c, e = .returned (.slice a l.length c) ∧ sat W (own 21 1 (.slice a l.length c) l.length (i32s l) :: tx t x :: H) w' := e ▸ part21 hx hn fr to_ hs
/-- How many cells are left when the blanks at the end are gone. -/
def trim (bl : List Bool) : Nat := (bl.reverse.dropWhile id).length
theorem trim_zero : trim [] = 0 := rfl
theorem trim_snoc (bl : List Bool) (b : Bool) : trim (bl ++ [b]) = if b = true then trim bl else bl.length + 1 := by
  unfold trim
  rw [List.reverse_append, List.reverse_singleton, List.singleton_append, List.dropWhile_cons]
  cases b <;> simp
theorem bools_get {l : List Bool} {i : Nat} (h : i < l.length) : (bools l)[i]? = some (.bool (l.getD i false)) := by
  simp [h]
set_option maxHeartbeats 1000000 in
theorem trimmed20 {l : List Int} (hx : x.Ok) (hn : x.cols.length ≤ 1000) (hn2 : x.blank.length ≤ 1000) (hl : x.part 0 (trim x.blank) = l) (hs : sat W (tx t x :: H) w) :
    Calls Try.prog 62 #[.pointer (some ⟨t, 0, none⟩)] w fun e w' => ∃ a c, e = .returned (.slice a l.length c) ∧ sat W (own 21 1 (.slice a l.length c) l.length (i32s l) :: tx t x :: H) w' := by
  have HL0 := Lib.hid hl
  clear hl
  have HX := Lib.hid hx
  clear hx
  go_enter Try.func62, Try.ntmps62
  go_wp2_with (first | (go_at_call 61; refine (cols12 hs).mono ?_; rintro e w' ⟨rfl, rfl⟩) | ((with_reducible refine isl ?_); first | ((with_reducible refine wrap hs ?_); clear hs; intro w hs) | ((with_reducible refine wrapn hs ?_); clear hs; intro w hs) | ((with_reducible refine wrapd hs ?_); clear hs; intro w hs)))
  go_loopw [3] (fun i wr => ∃ k : Nat, k ≤ x.blank.length ∧ i = .int .i64 (k : Int) ∧ Hid (trim (x.blank.take k) = trim x.blank) ∧ sat W (tx t x :: H) wr) (fun i _ => (intOf i).toNat)
  case atStart => exact ⟨x.blank.length, Nat.le_refl _, rfl, Lib.hid (by rw [List.take_length]), hs⟩
  case round =>
    clear hs
    obtain ⟨k, hk, rfl, HT, hs⟩ := hrel
    by_cases h0 : k = 0
    · subst h0
      have HL : Hid (x.part 0 ((0 : Nat) : Int) = l) := Lib.hid (by rw [← HL0.out, ← HT.out]; rfl)
      go_wp2_with (first | (go_at_call 60; refine (part_t HX.out hn HL.out hs).mono ?_; clear hs; rintro e w ⟨a5, c5, rfl, hs⟩) | ((with_reducible refine isl ?_); first | ((with_reducible refine wrap hs ?_); clear hs; intro w hs) | ((with_reducible refine wrapn hs ?_); clear hs; intro w hs) | ((with_reducible refine wrapd hs ?_); clear hs; intro w hs)))
      go_ret
      exact ⟨_, _, rfl, hs⟩
    · obtain ⟨j, rfl⟩ : ∃ j, k = j + 1 := ⟨k - 1, by omega⟩
      have hj : j < x.blank.length := by omega
      have HB := Lib.hid (bools_get hj)
      have HS : Hid (trim (x.blank.take (j + 1)) = if x.blank.getD j false = true then trim (x.blank.take j) else j + 1) := Lib.hid (by
        rw [List.take_succ_eq_append_getElem hj, trim_snoc, List.length_take, List.getD_eq_getElem?_getD, List.getElem?_eq_getElem hj, Option.getD_some, show min j x.blank.length = j by omega])
      generalize x.blank.getD j false = b at HB HS
      have hj2 : (j : Int) < (x.blank.length : Int) := by omega
      obtain ⟨aR, aP, aC, aB, cR, cP, cC, cB, hs⟩ := hs.tx_open
      obtain ⟨g, c5, e⟩ := hs.b4.own_some (by omega)
      cases e
      cases b with
      | true =>
        have HT2 : Hid (trim (x.blank.take j) = trim x.blank) := Lib.hid (by rw [← HT.out, HS.out, if_pos rfl])
        clear HS HT h0 hk
        go_wp2_with (first | ((with_reducible refine isl ?_); first | ((with_reducible apply ldo hs.b4); exact rfl; exact rfl; exact rfl; exact HB.out; kernel_rfl) | ((with_reducible apply ldx); exact rfl; exact rfl; exact rfl; exact hs.b0; exact rfl; kernel_rfl) | ((with_reducible apply stx); exact rfl; exact rfl; exact rfl; exact hs.b0; exact rfl; exact rfl; exact rfl; kernel_rfl; exact rfl; clear hs; intro w hs) | ((with_reducible apply stcx); exact rfl; exact rfl; exact rfl; exact hs.b0; exact rfl; exact rfl; kernel_rfl; exact rfl; clear hs; intro w hs) | ((with_reducible refine wrap hs ?_); clear hs; intro w hs) | ((with_reducible refine wrapn hs ?_); clear hs; intro w hs) | ((with_reducible refine wrapd hs ?_); clear hs; intro w hs)))
        go_roundw
        case rel => exact ⟨j, by omega, by go_num, HT2, hs.tx_close⟩
        case measure => simp [intOf]
      | false =>
        have HL : Hid (x.part 0 ((j : Int) + 1) = l) := Lib.hid (by rw [← HL0.out, ← HT.out, HS.out]; rfl)
        clear HS HT h0 hk
        go_wp2_with (first | (go_at_call 60; refine (part_t HX.out hn HL.out hs.tx_close).mono ?_; clear hs; rintro e w ⟨a5, c5, rfl, hs⟩) | ((with_reducible refine isl ?_); first | ((with_reducible apply ldo hs.b4); exact rfl; exact rfl; exact rfl; exact HB.out; kernel_rfl) | ((with_reducible apply ldx); exact rfl; exact rfl; exact rfl; exact hs.b0; exact rfl; kernel_rfl) | ((with_reducible apply stx); exact rfl; exact rfl; exact rfl; exact hs.b0; exact rfl; exact rfl; exact rfl; kernel_rfl; exact rfl; clear hs; intro w hs) | ((with_reducible apply stcx); exact rfl; exact rfl; exact rfl; exact hs.b0; exact rfl; exact rfl; kernel_rfl; exact rfl; clear hs; intro w hs) | ((with_reducible refine wrap hs ?_); clear hs; intro w hs) | ((with_reducible refine wrapn hs ?_); clear hs; intro w hs) | ((with_reducible refine wrapd hs ?_); clear hs; intro w hs)))
        go_ret
        exact ⟨_, _, rfl, hs⟩
end Go.Proofs.Ytcheljogpffabaa
