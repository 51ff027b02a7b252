/- Law 20: a text in memory; what only reads it. -/
import Derived.Test.YtdbaiioeaffgaaaProg
import Derived.Test.YtdbaiioeaffgaaaW1
import Derived.Test.YtdbaiioeaffgaaaSi
import Derived.Test.YtdbaiioeaffgaaaSp
import Derived.RegionTactic
import Derived.BigRegion
import Derived.ChangeAlike
import Derived.Deep.Cut
import Derived.Deep.CutRange
import Derived.Deep.CutBlock
import Derived.Deep.DeepCutAuto
namespace Go.Proofs.Ytdbaiioeaffgaaa
open Go.RowKit Go.Mem Go.Words
variable {W w : World} {H : List HProp}
theorem dr0 (w : World) : w = w.drewN 0 := rfl
theorem beq_no {n k : Int} (h : n ≠ k) : (n == k) = false := by simpa using h
abbrev i32s (l : List Int) : List Value := l.map (Value.int .i32)
abbrev bools (l : List Bool) : List Value := l.map Value.bool
abbrev txL (x : Tx) (aR aP aC aB : Option Addr) (cR cP cC cB : Nat) : List Value := [.slice aR x.runes.length cR, .slice aP x.places.length cP, .slice aC x.cols.length cC, .slice aB x.blank.length cB]
/-- A text stands in block t, with its rows. -/
def tx (t : Nat) (x : Tx) : HProp := fun h => ∃ aR aP aC aB cR cP cC cB, star (cel t 61 (txL x aR aP aC aB cR cP cC cB)) (star (own 21 1 (.slice aR x.runes.length cR) x.runes.length (i32s x.runes)) (star (own 3 1 (.slice aP x.places.length cP) x.places.length (nums .i64 x.places)) (star (own 3 1 (.slice aC x.cols.length cC) x.cols.length (nums .i64 x.cols)) (own 4 1 (.slice aB x.blank.length cB) x.blank.length (bools x.blank))))) h
theorem _root_.Go.Mem.sat.tx_open {t : Nat} {x : Tx} (hs : sat W (tx t x :: H) w) : ∃ aR aP aC aB cR cP cC cB, sat W (cel t 61 (txL x aR aP aC aB cR cP cC cB) :: own 21 1 (.slice aR x.runes.length cR) x.runes.length (i32s x.runes) :: own 3 1 (.slice aP x.places.length cP) x.places.length (nums .i64 x.places) :: own 3 1 (.slice aC x.cols.length cC) x.cols.length (nums .i64 x.cols) :: own 4 1 (.slice aB x.blank.length cB) x.blank.length (bools x.blank) :: H) w := by
  unfold tx at hs
  obtain ⟨aR, hs⟩ := hs.ex
  obtain ⟨aP, hs⟩ := hs.ex
  obtain ⟨aC, hs⟩ := hs.ex
  obtain ⟨aB, hs⟩ := hs.ex
  obtain ⟨cR, hs⟩ := hs.ex
  obtain ⟨cP, hs⟩ := hs.ex
  obtain ⟨cC, hs⟩ := hs.ex
  obtain ⟨cB, hs⟩ := hs.ex
  have hs := hs.unstar.b1.unstar.b1.unstar.b1.unstar
  refine ⟨aR, aP, aC, aB, cR, cP, cC, cB, ?_⟩
  exact (by (refine sat_from ?_ hs; repeat (first | exact Sub.refl _ | exact Sub.nil _ | refine Sub.c0 ?_ | refine Sub.c1 ?_ | refine Sub.c2 ?_ | refine Sub.c3 ?_ | refine Sub.c4 ?_ | refine Sub.c5 ?_ | refine Sub.c6 ?_ | refine Sub.c7 ?_ | refine Sub.c8 ?_ | refine Sub.c9 ?_ | refine Sub.skip ?_)))
theorem _root_.Go.Mem.sat.tx_close {t : Nat} {x : Tx} {aR aP aC aB : Option Addr} {cR cP cC cB : Nat} (hs : sat W (cel t 61 (txL x aR aP aC aB cR cP cC cB) :: own 21 1 (.slice aR x.runes.length cR) x.runes.length (i32s x.runes) :: own 3 1 (.slice aP x.places.length cP) x.places.length (nums .i64 x.places) :: own 3 1 (.slice aC x.cols.length cC) x.cols.length (nums .i64 x.cols) :: own 4 1 (.slice aB x.blank.length cB) x.blank.length (bools x.blank) :: H) w) : sat W (tx t x :: H) w :=
  hs.b4.b4.star.b3.star.b2.star.b1.star.imp fun _ h => ⟨aR, aP, aC, aB, cR, cP, cC, cB, h⟩
attribute [local irreducible] World.setCell World.setCells World.alloc World.drew World.drewN Calls sat cel own blk old wpQuiet wpList tx
variable {t : Nat} {x : Tx}
theorem cols12 (hs : sat W (tx t x :: H) w) : Calls Try.prog 12 #[.pointer (some ⟨t, 0, none⟩)] w fun e w' => e = .returned (.int .i64 x.blank.length) ∧ w' = w := by
  obtain ⟨aR, aP, aC, aB, cR, cP, cC, cB, hs⟩ := hs.tx_open
  go_enter Try.func12, Try.ntmps12
  go_wp2_with (first | ((with_reducible refine isl ?_); first | ((with_reducible apply ld hs.b0); exact rfl; exact rfl; exact rfl; exact rfl; kernel_rfl) | ((with_reducible apply st hs.b0); exact rfl; exact rfl; exact rfl; exact rfl; exact rfl; exact rfl; kernel_rfl; exact rfl; clear hs; intro w hs) | ((with_reducible apply stc hs.b0); exact rfl; exact rfl; exact rfl; exact rfl; exact rfl; kernel_rfl; exact rfl; clear hs; intro w hs) | ((with_reducible refine wrap hs ?_); clear hs; intro w hs) | ((with_reducible refine wrapn hs ?_); clear hs; intro w hs) | ((with_reducible refine wrapd hs ?_); clear hs; intro w hs)))
  go_ret
  exact ⟨rfl, rfl⟩
theorem cols12_nil (w : World) : Calls Try.prog 12 #[.pointer none] w fun e w' => e = .returned (.int .i64 0) ∧ w' = w := by
  go_enter Try.func12, Try.ntmps12
  go_wp2
  go_ret
  exact ⟨rfl, rfl⟩
theorem nums_cell {w : World} {a : Option Addr} {n c : Nat} {l : List Nat} (h : Reads w (.slice a n c) (nums .i64 l)) {i : Nat} (hi : i < l.length) : ∃ b o, a = some ⟨b, o, none⟩ ∧ w.cell? ⟨b, o + i, none⟩ = some (.int .i64 (l.getD i 0 : Nat)) := by
  obtain ⟨_, a', c', e, h2⟩ := h
  cases e
  obtain ⟨b, o, e2, h3⟩ := h2 (by intro h; have := congrArg List.length h; simp [nums] at this; rw [this] at hi; exact absurd hi (Nat.not_lt_zero _))
  exact ⟨b, o, e2, h3 i _ (nums_get hi)⟩
theorem place13 (hx : x.Ok) (hn : x.blank.length ≤ 1000) (col : Int) (hs : sat W (tx t x :: H) w) : Calls Try.prog 13 #[.pointer (some ⟨t, 0, none⟩), .int .i64 col] w fun e w' => e = .returned (.int .i64 (x.place col)) ∧ sat W (tx t x :: H) w' := by
  have HX := Lib.hid hx
  have hs0 := hs
  by_cases h1 : col < 0
  · go_enter Try.func13, Try.ntmps13
    go_wp2_with (first | (go_at_call 12; refine (cols12 hs).mono ?_; rintro e w' ⟨rfl, rfl⟩) | ((with_reducible refine isl ?_); first | ((with_reducible refine wrap hs ?_); clear hs; intro w hs) | ((with_reducible refine wrapn hs ?_); clear hs; intro w hs) | ((with_reducible refine wrapd hs ?_); clear hs; intro w hs)))
    go_ret
    exact ⟨by simp [Tx.place, h1], hs⟩
  · by_cases h2 : x.blank.length = 0
    · go_enter Try.func13, Try.ntmps13
      go_wp2_with (first | (go_at_call 12; refine (cols12 hs).mono ?_; rintro e w' ⟨rfl, rfl⟩) | ((with_reducible refine isl ?_); first | ((with_reducible refine wrap hs ?_); clear hs; intro w hs) | ((with_reducible refine wrapn hs ?_); clear hs; intro w hs) | ((with_reducible refine wrapd hs ?_); clear hs; intro w hs)))
      go_ret
      exact ⟨by simp [Tx.place, h2], hs⟩
    · have HX2 := Lib.hid (show x.place col = x.places.getD (min col.toNat x.blank.length) 0 by unfold Tx.place; rw [if_neg (by omega)])
      have HP := Lib.hid (hx.hp h2)
      have b0 : ((x.blank.length : Int) == 0) = false := beq_no (by omega)
      clear hx hs0
      by_cases hc : (x.blank.length : Int) < col
      · have hlt : x.blank.length < x.places.length := by have := HP.out; omega
        rw [show min col.toNat x.blank.length = x.blank.length by omega] at HX2
        have hlt2 : (x.blank.length : Int) < (x.places.length : Int) := by omega
        have HG := Lib.hid (nums_get (k := .i64) hlt)
        generalize x.places.getD _ 0 = y at HX2 HG
        obtain ⟨aR, aP, aC, aB, cR, cP, cC, cB, hs⟩ := hs.tx_open
        obtain ⟨g, c, e⟩ := hs.b2.own_some (by omega)
        cases e
        clear hlt
        go_enter Try.func13, Try.ntmps13
        go_wp2_with (first | (go_at_call 12; refine (cols12 hs.tx_close).mono ?_; rintro e w' ⟨rfl, rfl⟩) | ((try simp only [Act.put, List.setIfInBounds_toArray, List.set_cons_succ, List.set_cons_zero]); refine region_sat hs (by kernel_rfl) (by kernel_rfl) ?_; intro X f hne hf hcl; (repeat (first | ((with_reducible apply ldoq (fun x => (hf x).b2)); exact rfl; exact rfl; exact rfl; exact HG.out; kernel_rfl; (try simp only [Act.put, List.setIfInBounds_toArray, List.set_cons_succ, List.set_cons_zero])) | ((with_reducible apply ldq (fun x => (hf x).b0)); exact rfl; exact rfl; exact rfl; exact rfl; kernel_rfl; (try simp only [Act.put, List.setIfInBounds_toArray, List.set_cons_succ, List.set_cons_zero])) | (go_big_quiet_want; go_big_quiet_op; refine ⟨_, fun x => (cols12 (hf x).tx_close).mono (by rintro e w' ⟨rfl, rfl⟩; exact ⟨rfl, hcl _ (hf x)⟩), ?_⟩; go_big_quiet_on) | go_big_quiet_step (fail))); refine wpQuiet_nil ?_; clear hcl hf hne hs f X; intro w hs) | ((with_reducible refine isl ?_); first | ((with_reducible refine wrap hs ?_); clear hs; intro w hs) | ((with_reducible refine wrapn hs ?_); clear hs; intro w hs) | ((with_reducible refine wrapd hs ?_); clear hs; intro w hs)))
        go_ret
        exact ⟨by rw [HX2.out]; rfl, hs.tx_close⟩
      · obtain ⟨k, rfl⟩ : ∃ k : Nat, col = (k : Int) := ⟨col.toNat, by omega⟩
        have hlt : k < x.places.length := by have := HP.out; omega
        rw [show min (k : Int).toNat x.blank.length = k by omega] at HX2
        have hlt2 : (k : Int) < (x.places.length : Int) := by omega
        have HG := Lib.hid (nums_get (k := .i64) hlt)
        generalize x.places.getD _ 0 = y at HX2 HG
        obtain ⟨aR, aP, aC, aB, cR, cP, cC, cB, hs⟩ := hs.tx_open
        obtain ⟨g, c, e⟩ := hs.b2.own_some (by omega)
        cases e
        clear hlt
        go_enter Try.func13, Try.ntmps13
        go_wp2_with (first | (go_at_call 12; refine (cols12 hs.tx_close).mono ?_; rintro e w' ⟨rfl, rfl⟩) | ((try simp only [Act.put, List.setIfInBounds_toArray, List.set_cons_succ, List.set_cons_zero]); refine region_sat hs (by kernel_rfl) (by kernel_rfl) ?_; intro X f hne hf hcl; (repeat (first | ((with_reducible apply ldoq (fun x => (hf x).b2)); exact rfl; exact rfl; exact rfl; exact HG.out; kernel_rfl; (try simp only [Act.put, List.setIfInBounds_toArray, List.set_cons_succ, List.set_cons_zero])) | ((with_reducible apply ldq (fun x => (hf x).b0)); exact rfl; exact rfl; exact rfl; exact rfl; kernel_rfl; (try simp only [Act.put, List.setIfInBounds_toArray, List.set_cons_succ, List.set_cons_zero])) | (go_big_quiet_want; go_big_quiet_op; refine ⟨_, fun x => (cols12 (hf x).tx_close).mono (by rintro e w' ⟨rfl, rfl⟩; exact ⟨rfl, hcl _ (hf x)⟩), ?_⟩; go_big_quiet_on) | go_big_quiet_step (fail))); refine wpQuiet_nil ?_; clear hcl hf hne hs f X; intro w hs) | ((with_reducible refine isl ?_); first | ((with_reducible refine wrap hs ?_); clear hs; intro w hs) | ((with_reducible refine wrapn hs ?_); clear hs; intro w hs) | ((with_reducible refine wrapd hs ?_); clear hs; intro w hs)))
        go_ret
        exact ⟨by rw [HX2.out]; rfl, hs.tx_close⟩
theorem place13_nil (col : Int) (w : World) : Calls Try.prog 13 #[.pointer none, .int .i64 col] w fun e w' => e = .returned (.int .i64 0) ∧ w' = w := by
  by_cases h1 : col < 0
  all_goals
    go_enter Try.func13, Try.ntmps13
    go_wp2_with (first | (go_at_call 12; refine (cols12_nil _).mono ?_; rintro e w' ⟨rfl, rfl⟩) | ((with_reducible refine isl ?_); first | ((with_reducible refine wrap hs ?_); clear hs; intro w hs) | ((with_reducible refine wrapn hs ?_); clear hs; intro w hs) | ((with_reducible refine wrapd hs ?_); clear hs; intro w hs)))
    go_ret
    exact ⟨rfl, rfl⟩
theorem col11_nil (p : Int) (w : World) : Calls Try.prog 11 #[.pointer none, .int .i64 p] w fun e w' => e = .returned (.int .i64 0) ∧ w' = w := by
  by_cases h1 : p < 0
  all_goals
    go_enter Try.func11, Try.ntmps11
    go_wp2_with (first | (go_at_call 12; refine (cols12_nil _).mono ?_; rintro e w' ⟨rfl, rfl⟩) | ((with_reducible refine isl ?_); first | ((with_reducible refine wrap hs ?_); clear hs; intro w hs) | ((with_reducible refine wrapn hs ?_); clear hs; intro w hs) | ((with_reducible refine wrapd hs ?_); clear hs; intro w hs)))
    go_ret
    exact ⟨rfl, rfl⟩
theorem col11 (p : Int) (hs : sat W (tx t x :: H) w) : Calls Try.prog 11 #[.pointer (some ⟨t, 0, none⟩), .int .i64 p] w fun e w' => e = .returned (.int .i64 (x.col p)) ∧ sat W (tx t x :: H) w' := by
  by_cases h1 : p < 0
  · go_enter Try.func11, Try.ntmps11
    go_wp2
    go_ret
    exact ⟨by simp [Tx.col, h1], hs⟩
  · have h1' : 0 ≤ p := by omega
    obtain ⟨k, rfl⟩ : ∃ k : Nat, p = (k : Int) := ⟨p.toNat, by omega⟩
    by_cases h2 : x.cols.length ≤ k
    · have HC := Lib.hid (show x.col k = x.blank.length by unfold Tx.col; rw [if_neg h1, if_pos (by omega)])
      have h2' : (x.cols.length : Int) ≤ (k : Int) := by omega
      clear h2
      obtain ⟨aR, aP, aC, aB, cR, cP, cC, cB, hs⟩ := hs.tx_open
      go_enter Try.func11, Try.ntmps11
      go_wp2_with (first | (go_at_call 12; refine (cols12 hs.tx_close).mono ?_; rintro e w' ⟨rfl, rfl⟩) | ((with_reducible refine isl ?_); first | ((with_reducible apply ld hs.b0); exact rfl; exact rfl; exact rfl; exact rfl; kernel_rfl) | ((with_reducible apply st hs.b0); exact rfl; exact rfl; exact rfl; exact rfl; exact rfl; exact rfl; kernel_rfl; exact rfl; clear hs; intro w hs) | ((with_reducible apply stc hs.b0); exact rfl; exact rfl; exact rfl; exact rfl; exact rfl; kernel_rfl; exact rfl; clear hs; intro w hs) | ((with_reducible refine wrap hs ?_); clear hs; intro w hs) | ((with_reducible refine wrapn hs ?_); clear hs; intro w hs) | ((with_reducible refine wrapd hs ?_); clear hs; intro w hs)))
      go_ret
      exact ⟨by rw [HC.out]; rfl, hs.tx_close⟩
    · have HC := Lib.hid (show x.col k = x.cols.getD k 0 by unfold Tx.col; rw [if_neg h1, if_neg (by omega), Int.toNat_natCast])
      have hlt : k < x.cols.length := by omega
      have h2' : ¬ (x.cols.length : Int) ≤ (k : Int) := by omega
      have h3' : (k : Int) < (x.cols.length : Int) := by omega
      have HG := Lib.hid (nums_get (k := .i64) hlt)
      generalize x.cols.getD k 0 = y at HC HG
      clear h2
      obtain ⟨aR, aP, aC, aB, cR, cP, cC, cB, hs⟩ := hs.tx_open
      obtain ⟨g, c, e⟩ := hs.b3.own_some (by omega)
      clear hlt
      cases e
      go_enter Try.func11, Try.ntmps11
      go_wp2_with (first | ((with_reducible refine isl ?_); first | ((with_reducible apply ldo hs.b3); exact rfl; exact rfl; exact rfl; exact HG.out; kernel_rfl) | ((with_reducible apply ld hs.b0); exact rfl; exact rfl; exact rfl; exact rfl; kernel_rfl) | ((with_reducible apply st hs.b0); exact rfl; exact rfl; exact rfl; exact rfl; exact rfl; exact rfl; kernel_rfl; exact rfl; clear hs; intro w hs) | ((with_reducible apply stc hs.b0); exact rfl; exact rfl; exact rfl; exact rfl; exact rfl; kernel_rfl; exact rfl; clear hs; intro w hs) | ((with_reducible refine wrap hs ?_); clear hs; intro w hs) | ((with_reducible refine wrapn hs ?_); clear hs; intro w hs) | ((with_reducible refine wrapd hs ?_); clear hs; intro w hs)))
      go_ret
      exact ⟨by rw [HC.out]; rfl, hs.tx_close⟩
end Go.Proofs.Ytdbaiioeaffgaaa
