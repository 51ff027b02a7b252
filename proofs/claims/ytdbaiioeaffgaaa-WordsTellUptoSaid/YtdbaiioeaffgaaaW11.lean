/- Law 20: a text that is not there, or was not made. -/
import Derived.Test.YtdbaiioeaffgaaaW10
namespace Go.Proofs.Ytdbaiioeaffgaaa
open Go.RowKit Go.Mem Go.Words
variable {W w : World} {H : List HProp}
/-- What has no cells, where Hc holds. -/
structure Emp (q : Option Addr) (Hc : List HProp) : Prop where
  cols : ∀ (W : World) (H : List HProp) (w : World), sat W (Hc ++ H) w → Calls Try.prog 12 #[.pointer q] w fun e w' => e = .returned (.int .i64 0) ∧ sat W (Hc ++ H) w'
  runes : ∀ (W : World) (H : List HProp) (w : World), sat W (Hc ++ H) w → Calls Try.prog 10 #[.pointer q] w fun e w' => ∃ a c, e = .returned (.slice a 0 c) ∧ sat W (Hc ++ H) w'
  trimmed : ∀ (W : World) (H : List HProp) (w : World), sat W (Hc ++ H) w → Calls Try.prog 20 #[.pointer q] w fun e w' => ∃ a c, e = .returned (.slice a 0 c) ∧ sat W (Hc ++ H) w'
  part : ∀ (W : World) (H : List HProp) (w : World) (a b : Int), sat W (Hc ++ H) w → Calls Try.prog 21 #[.pointer q, .int .i64 a, .int .i64 b] w fun e w' => ∃ a c, e = .returned (.slice a 0 c) ∧ sat W (Hc ++ H) w'
  place : ∀ (W : World) (H : List HProp) (w : World) (a : Int), sat W (Hc ++ H) w → Calls Try.prog 13 #[.pointer q, .int .i64 a] w fun e w' => e = .returned (.int .i64 0) ∧ sat W (Hc ++ H) w'
  col : ∀ (W : World) (H : List HProp) (w : World) (a : Int), sat W (Hc ++ H) w → Calls Try.prog 11 #[.pointer q, .int .i64 a] w fun e w' => e = .returned (.int .i64 0) ∧ sat W (Hc ++ H) w'
  words : ∀ (W : World) (H : List HProp) (w : World), sat W (Hc ++ H) w → Calls Try.prog 14 #[.pointer q] w fun e w' => ∃ a c, e = .returned (.slice a 0 c) ∧ sat W (Hc ++ H) w'
  word : ∀ (W : World) (H : List HProp) (w : World) (a : Int), sat W (Hc ++ H) w → Calls Try.prog 17 #[.pointer q, .int .i64 a] w fun e w' => e = .returned (.tuple #[.agg #[.int .i64 0, .int .i64 0], .bool false]) ∧ sat W (Hc ++ H) w'
  next : ∀ (W : World) (H : List HProp) (w : World) (a : Int), sat W (Hc ++ H) w → Calls Try.prog 15 #[.pointer q, .int .i64 a] w fun e w' => e = .returned (.int .i64 (-1)) ∧ sat W (Hc ++ H) w'
  prev : ∀ (W : World) (H : List HProp) (w : World) (a : Int), sat W (Hc ++ H) w → Calls Try.prog 16 #[.pointer q, .int .i64 a] w fun e w' => e = .returned (.int .i64 (-1)) ∧ sat W (Hc ++ H) w'
theorem emp_nil : Emp none [] where
  cols := fun W H w hs => (cols12_nil w).mono fun e w' ⟨h1, h2⟩ => ⟨h1, by rw [h2]; exact hs⟩
  runes := fun W H w hs => (runes10_nil hs).mono fun e w' ⟨h1, h2⟩ => ⟨_, _, h1, h2⟩
  trimmed := fun W H w hs => (trimmed20_nil hs).mono fun e w' ⟨h1, h2⟩ => ⟨_, _, h1, h2⟩
  part := fun W H w a b hs => (part21_nil a b hs).mono fun e w' ⟨h1, h2⟩ => ⟨_, _, h1, h2⟩
  place := fun W H w a hs => (place13_nil a w).mono fun e w' ⟨h1, h2⟩ => ⟨h1, by rw [h2]; exact hs⟩
  col := fun W H w a hs => (col11_nil a w).mono fun e w' ⟨h1, h2⟩ => ⟨h1, by rw [h2]; exact hs⟩
  words := fun W H w hs => (words14 (Hc := []) ws_nil (Nat.zero_le _) hs).mono fun e w' ⟨a, c, h1, h2⟩ => ⟨a, c, h1, h2.drop⟩
  word := fun W H w a hs => word17 (Hc := []) ws_nil a hs
  next := fun W H w a hs => next15 (Hc := []) ws_nil a hs
  prev := fun W H w a hs => prev16 (Hc := []) ws_nil a hs
theorem emp_tx {t : Nat} {x : Tx} (hx : x.Ok) (hb : x.blank = []) (hr : x.runes = []) (hc : x.cols = []) : Emp (some ⟨t, 0, none⟩) [tx t x] where
  cols := fun W H w hs => (cols12 hs).mono fun e w' ⟨h1, h2⟩ => ⟨by rw [h1, hb]; rfl, by rw [h2]; exact hs⟩
  runes := fun W H w hs => (runes_t hr rfl hx (by rw [hc]; exact Nat.zero_le _) hs).mono fun e w' ⟨a, c, h1, h2⟩ => ⟨a, c, h1, h2.drop⟩
  trimmed := fun W H w hs => (trimmed20 (l := []) hx (by rw [hc]; exact Nat.zero_le _) (by rw [hb]; exact Nat.zero_le _) (by unfold Tx.part; rw [hc]; rfl) hs).mono fun e w' ⟨a, c, h1, h2⟩ => ⟨a, c, h1, h2.drop⟩
  part := fun W H w a b hs => (part_t (l := []) hx (by rw [hc]; exact Nat.zero_le _) (by unfold Tx.part; rw [hc]; rfl) hs).mono fun e w' ⟨a, c, h1, h2⟩ => ⟨a, c, h1, h2.drop⟩
  place := fun W H w a hs => place_t (by unfold Tx.place; rw [hb]; simp) hx (by rw [hb]; exact Nat.zero_le _) hs
  col := fun W H w a hs => col_t (by
    unfold Tx.col
    rw [hb, hc]
    by_cases h : a < 0
    · rw [if_pos h]
    · rw [if_neg h, if_pos (by simp; omega)]; rfl) hs
  words := fun W H w hs => (words_t (ws := []) (by rw [hb]; exact words_end (Nat.le_refl _)) rfl (by rw [hb]; exact Nat.zero_le _) hs).mono fun e w' ⟨a, c, h1, h2⟩ => ⟨a, c, h1, h2.drop⟩
  word := fun W H w a hs => word17 (Hc := [tx t x]) (ws_tx (ws := []) (by rw [hb]; exact words_end (Nat.le_refl _)) (by rw [hb]; exact Nat.zero_le _)) a hs
  next := fun W H w a hs => next_t (ws := []) (by rw [hb]; exact words_end (Nat.le_refl _)) rfl (by rw [hb]; exact Nat.zero_le _) hs
  prev := fun W H w a hs => prev_t (ws := []) (by rw [hb]; exact words_end (Nat.le_refl _)) rfl (by rw [hb]; exact Nat.zero_le _) hs
abbrev x0 : Tx := ⟨[], [], [], []⟩
abbrev x1 : Tx := ⟨[], [0], [], []⟩
theorem x0_ok : x0.Ok := ⟨fun h => (h rfl).elim, rfl, by intro c hc; cases hc⟩
theorem x1_ok : x1.Ok := ⟨fun h => (h rfl).elim, rfl, by intro c hc; cases hc⟩
theorem nil_cs : CS W H none 0 0 [] := ⟨SR.nil rfl (Nat.zero_le _), by intro m hm; cases hm⟩
attribute [local irreducible] World.setCell World.setCells World.alloc World.drew World.drewN Calls sat cel own blk old wpQuiet wpList tx
theorem sat.zero_tx {z : Nat} (hs : sat W (cel z 61 [.slice none 0 0, .slice none 0 0, .slice none 0 0, .slice none 0 0] :: H) w) : sat W (tx z x0 :: H) w := by
  have hs := (((hs.own_nil 4 1).own_nil 3 1).own_nil 3 1).own_nil 21 1
  have hs := hs.b4
  exact hs.tx_close (x := x0)
theorem ix62 {c : Array Value} {k : Nat} {v : Value} {o : Oper} {ops : Array Oper} {rest : List Oper} {a : Act} {Q : Exit → Act → World → Prop} {x i : Operand} (ho : o.op = .index 62 x i) (hw : Region.wanted o (yielded ops a.tmps) = true) (hx : a.eval x = .agg c) (hi : a.eval i = .int .i64 k)
    (hk : k < 3) (hv : c[k]? = some v) (h : wpList Try.prog ops Q rest (a.put o.dst v) w) : wpList Try.prog ops Q (o :: rest) a w :=
  ix ho hw hx hi Try.underlying62 (by kernel_rfl) hk hv h
theorem row41' : rowTy Try.prog 41 2 = true := by kernel_rfl
set_option maxHeartbeats 4000000 in
theorem none_walk (w0 : World) (col : Int) (hs : sat W (old w0 :: H) w) : Calls Try.prog 6 #[.int .i64 col] w fun e w' => e = .returned (.bool true) ∧ sat W (old w0 :: H) w' := by
  go_enter Try.func6, Try.ntmps6
  go_wp2_with (first | (go_at_call 9; refine (of9_t (x := x1) (L := []) rfl nil_cs (Nat.zero_le _) hs).mono ?_; clear hs; rintro e w ⟨t, rfl, hs⟩) | ((with_reducible refine isl ?_); first | ((with_reducible refine wrap hs ?_); clear hs; (first | generalize w.heap.size = z0); intro w hs) | ((with_reducible refine wrap hs ?_); clear hs; intro w hs) | ((with_reducible refine wrapn hs ?_); clear hs; intro w hs) | ((with_reducible refine wrapd hs ?_); clear hs; intro w hs)))
  replace hs : sat W (tx z0 x0 :: tx t x1 :: old w0 :: H) w := by
    have hs := sat.zero_tx hs.b1
    (refine sat_from ?_ hs; repeat (first | exact Sub.refl _ | exact Sub.nil _ | refine Sub.c0 ?_ | refine Sub.c1 ?_ | refine Sub.c2 ?_ | refine Sub.c3 ?_ | refine Sub.c4 ?_ | refine Sub.c5 ?_ | refine Sub.c6 ?_ | refine Sub.c7 ?_ | refine Sub.c8 ?_ | refine Sub.c9 ?_ | refine Sub.skip ?_))
  go_loopw [10] (fun i wr => ∃ k : Nat, k ≤ 3 ∧ i = .int .i64 (k : Int) ∧ sat W (tx z0 x0 :: tx t x1 :: old w0 :: H) wr) (fun i _ => ((3 : Int) - intOf i).toNat)
  case atStart => exact ⟨0, by omega, rfl, hs⟩
  case round =>
    clear hs
    obtain ⟨k, hk, rfl, hs⟩ := hrel
    by_cases hlt : k < 3
    · obtain ⟨q, Hc, H', hq, he, hto, hfrom⟩ : ∃ (q : Option Addr) (Hc H' : List HProp), (#[Value.pointer none, .pointer (some ⟨z0, 0, none⟩), .pointer (some ⟨t, 0, none⟩)] : Array Value)[k]? = some (.pointer q) ∧ Emp q Hc ∧ (∀ w, sat W (tx z0 x0 :: tx t x1 :: old w0 :: H) w → sat W (Hc ++ H') w) ∧ (∀ w, sat W (Hc ++ H') w → sat W (tx z0 x0 :: tx t x1 :: old w0 :: H) w) := by
        have h3 : k = 0 ∨ k = 1 ∨ k = 2 := by omega
        rcases h3 with rfl | rfl | rfl
        · exact ⟨none, [], _, rfl, emp_nil, fun _ h => h, fun _ h => h⟩
        · exact ⟨_, [tx z0 x0], _, rfl, emp_tx x0_ok rfl rfl rfl, fun _ h => h, fun _ h => h⟩
        · exact ⟨_, [tx t x1], _, rfl, emp_tx x1_ok rfl rfl rfl, fun _ h => h.b1, fun _ h => sat.b1 (A0 := tx t x1) (A1 := tx z0 x0) h⟩
      have HQ := Lib.hid hq
      have HE := Lib.hid he
      have HF := Lib.hid hfrom
      have hs := hto _ hs
      clear hq he hfrom hto
      have hk3 : (k : Int) < 3 := by omega
      go_wp2_with (first | (apply ix62; exact rfl; exact rfl; exact rfl; exact rfl; exact hlt; exact HQ.out) | (go_at_call 17; refine (HE.out.word _ _ _ _ hs).mono ?_; clear hs; rintro e w ⟨rfl, hs⟩) | (go_at_call 12; refine (HE.out.cols _ _ _ hs).mono ?_; clear hs; rintro e w ⟨rfl, hs⟩) | (go_at_call 10; refine (HE.out.runes _ _ _ hs).mono ?_; clear hs; rintro e w ⟨a1, c1, rfl, hs⟩) | (go_at_call 20; refine (HE.out.trimmed _ _ _ hs).mono ?_; clear hs; rintro e w ⟨a2, c2, rfl, hs⟩) | (go_at_call 21; refine (HE.out.part _ _ _ _ _ hs).mono ?_; clear hs; rintro e w ⟨a3, c3, rfl, hs⟩) | (go_at_call 13; refine (HE.out.place _ _ _ _ hs).mono ?_; clear hs; rintro e w ⟨rfl, hs⟩) | (go_at_call 11; refine (HE.out.col _ _ _ _ hs).mono ?_; clear hs; rintro e w ⟨rfl, hs⟩) | (go_at_call 14; refine (HE.out.words _ _ _ hs).mono ?_; clear hs; rintro e w ⟨a4, c4, rfl, hs⟩) | (go_at_call 15; refine (HE.out.next _ _ _ _ hs).mono ?_; clear hs; rintro e w ⟨rfl, hs⟩) | (go_at_call 16; refine (HE.out.prev _ _ _ _ hs).mono ?_; clear hs; rintro e w ⟨rfl, hs⟩) | ((with_reducible refine isl ?_); first | ((with_reducible apply stsw hs); exact rfl; exact rfl; exact rfl; exact rfl; exact row41'; exact rfl; exact rfl; exact rfl; clear hs; intro w hs; replace hs := hs.drop) | ((with_reducible refine wrap hs ?_); clear hs; intro w hs) | ((with_reducible refine wrapn hs ?_); clear hs; intro w hs) | ((with_reducible refine wrapd hs ?_); clear hs; intro w hs)))
      go_roundw
      case rel => exact ⟨k + 1, by omega, by go_num, HF.out _ hs⟩
      case measure => simp [intOf]; omega
    · obtain rfl : k = 3 := by omega
      go_wp2_with (first | (go_at_call 8; refine (known8 hs).mono ?_; clear hs; rintro e w ⟨rfl, hs⟩) | ((with_reducible refine isl ?_); first | ((with_reducible refine wrap hs ?_); clear hs; intro w hs) | ((with_reducible refine wrapn hs ?_); clear hs; intro w hs) | ((with_reducible refine wrapd hs ?_); clear hs; intro w hs)))
      go_ret
      exact ⟨rfl, hs.drop.drop⟩
theorem none_top (a : Int) (w : World) (_h : (Lit.int .i64 a).wf = true) : Calls Try.prog 6 #[.int .i64 a] w fun e w' => e = .returned (.bool true) ∧ Below w.heap.size w w' :=
  (none_walk w a (sat.start w)).mono fun _ _ ⟨he, hs⟩ => ⟨he, hs.below⟩
end Go.Proofs.Ytdbaiioeaffgaaa
