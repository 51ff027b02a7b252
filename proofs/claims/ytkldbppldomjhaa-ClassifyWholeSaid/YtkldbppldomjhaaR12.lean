/- Law 16: End, New, Clone, Open. -/
import Derived.Test.YtkldbppldomjhaaR11
namespace Go.Proofs.Ytkldbppldomjhaa
open Go.RowKit Go.Mem Go.Typed Go.Front Go.Classify
variable {W w : World} {H : List HProp}
attribute [local irreducible] World.setCell World.setCells World.alloc World.drew World.drewN Calls sat cel own blk old wpQuiet wpList tyL ringC rns tyP clP rnl
variable {b z : Nat} {c : Cl}
attribute [local irreducible] lst
theorem end11 {c' : Cl} {m : List Run} (he : endr c = (c', m)) (h200 : c.run.text.length ≤ 1000) (hs : sat W (clP b c :: H) w) : Calls Try.prog 11 #[.pointer (some ⟨b, 0, none⟩)] w fun e w' => ∃ a cp, e = .returned (.slice a m.length cp) ∧ sat W (rns (.slice a m.length cp) m :: clP b c' :: H) w' := by
  obtain ⟨k, hk⟩ : ∃ k, m.length = k := ⟨_, rfl⟩
  rw [hk]
  have HK := Lib.hid hk
  have HE := Lib.hid he
  have H2 := Lib.hid h200
  clear hk he h200
  go_enter Try.func11, Try.ntmps11
  go_wp2_with (first | (go_at_call 14; refine (none14 (by apply sk_from (hs := hs); repeat constructor)).mono ?_; clear hs; rintro e w ⟨rfl, hs⟩) | (go_at_call 19; refine (end19_as HE.out (by have := H2.out; omega) (by decide) (l := []) (c := c) (by have h0 := rns_nil hs; have h1 : sat W (cel zr 29 [.slice none 0 0] :: rns (.slice none 0 0) [] :: clP b c :: H) w := (by (refine sb_from ?_ h0; repeat constructor)); have h2 := lst_close (n := 0) rfl h1; exact h2.b1)).mono ?_; clear hs; rintro e w ⟨rfl, hs⟩; rw [List.nil_append] at hs; obtain ⟨ar, cr, hs⟩ := lst_open HK.out hs.b1) | ((with_reducible refine isl ?_); first | ((with_reducible apply ld hs.b0); exact rfl; exact rfl; exact rfl; exact rfl; kernel_rfl) | ((with_reducible apply ld hs.b1); exact rfl; exact rfl; exact rfl; exact rfl; kernel_rfl) | ((with_reducible apply st hs.b0); exact rfl; exact rfl; exact rfl; exact rfl; exact rfl; exact rfl; kernel_rfl; exact rfl; clear hs; intro w hs) | ((with_reducible apply st hs.b1); exact rfl; exact rfl; exact rfl; exact rfl; exact rfl; exact rfl; kernel_rfl; exact rfl; clear hs; intro w hs) | ((with_reducible apply stc hs.b0); exact rfl; exact rfl; exact rfl; exact rfl; exact rfl; kernel_rfl; exact rfl; clear hs; intro w hs) | ((with_reducible apply stc hs.b1); exact rfl; exact rfl; exact rfl; exact rfl; exact rfl; kernel_rfl; exact rfl; clear hs; intro w hs) | ((with_reducible refine wrap hs ?_); clear hs; (first | generalize w.heap.size = zr); intro w hs) | ((with_reducible refine wrap hs ?_); clear hs; intro w hs) | ((with_reducible refine wrapn hs ?_); clear hs; intro w hs) | ((with_reducible refine wrapd hs ?_); clear hs; intro w hs)))
  (first | refine ret_cell1 hs.b0 rfl rfl rfl one29 ?_ | refine ret_cell1 hs.b1 rfl rfl rfl one29 ?_ | refine ret_cell1 hs.b2 rfl rfl rfl one29 ?_)
  exact ⟨ar, cr, rfl, by (refine sb_from ?_ hs; repeat constructor)⟩
theorem fnew13 (hs : sat W H w) : Calls Try.prog 13 #[] w fun e w' => ∃ z, e = .returned (.pointer (some ⟨z, 0, none⟩)) ∧ sat W (cel z 65 (stL Front.new) :: H) w' := by
  go_enter Try.func13, Try.ntmps13
  go_wp2_with (first | ((with_reducible refine isl ?_); first | ((with_reducible refine wrap hs ?_); clear hs; intro w hs) | ((with_reducible refine wrapn hs ?_); clear hs; intro w hs) | ((with_reducible refine wrapd hs ?_); clear hs; intro w hs)))
  go_ret
  exact ⟨_, rfl, hs.made⟩
theorem new5 {life quiet : Int} (h1 : 1 ≤ life) (h2 : life ≤ 1000) (h3 : 1 ≤ quiet) (h4 : quiet ≤ 1000) (hs : sat W H w) : Calls Try.prog 5 #[.int .i64 life, .int .i64 quiet] w fun e w' => ∃ z, e = .returned (.tuple #[.pointer (some ⟨z, 0, none⟩), .int .i64 0]) ∧ sat W (clP z ⟨[], life, 0, Front.new, quiet, zr, 0, 0⟩ :: H) w' := by
  have HA := Lib.hid (And.intro h1 h2)
  have g3 : ¬ quiet < 1 := by omega
  have g4 : ¬ 1000 < quiet := by omega
  go_enter Try.func5, Try.ntmps5
  go_wp2_with (first | (go_at_call 12; refine (new7 life HA.out.1 HA.out.2 hs).mono ?_; clear hs; rintro e w ⟨bt, rfl, hs⟩; replace hs := ty_of hs) | (go_at_call 13; refine (fnew13 hs).mono ?_; clear hs; rintro e w ⟨bf, rfl, hs⟩) | ((with_reducible refine isl ?_); first | ((with_reducible refine wrap hs ?_); clear hs; intro w hs) | ((with_reducible refine wrapn hs ?_); clear hs; intro w hs) | ((with_reducible refine wrapd hs ?_); clear hs; intro w hs)))
  refine end_ret rfl (results_tmp2 rfl _ _ _) ?_
  have hs := hs.made (T := 50) (l := clC bt bf ⟨[], life, 0, Front.new, quiet, zr, 0, 0⟩ (.slice none 0 0))
  have hs := hs.own_nil 21 1
  exact ⟨_, rfl, cl_close (n := 0) (bt := bt) (bf := bf) (a := none) (cp := 0) rfl (by (refine sb_from ?_ hs; repeat constructor))⟩
theorem clone20 {a : Option Addr} {n c : Nat} {l : List Int} (hl : l.length = n) (hn : n ≤ 2000) (hs : sat W (own 21 1 (.slice a n c) n (runes l) :: H) w) :
    Calls Try.prog 20 #[.slice a n c] w fun e w' => ∃ a' c', e = .returned (.slice a' n c') ∧ sat W (own 21 1 (.slice a' n c') n (runes l) :: own 21 1 (.slice a n c) n (runes l) :: H) w' := by
  have HL : Hid ((runes l).length = n) := Lib.hid (by rw [runes_len, hl])
  have HR : Hid (∀ u ∈ runes l, u.oneCell' = true) := Lib.hid (by unfold runes; exact ints_ok)
  rcases hs.own_cases.2 with ⟨e, rfl, h2⟩ | ⟨g, cap, cur, e, _⟩
  · cases e
    clear hl
    have hnil := Go.Lib.run_eql_slice_nil (P := Try.prog) w 30 21 none 0 0 0 0 Try.underlying30
    go_enter Try.func20, Try.ntmps20
    go_wp2_with fail
    go_ret
    refine ⟨none, 0, rfl, ?_⟩
    rw [h2] at hs ⊢
    exact hs.own_nil 21 1
  · cases e
    clear hl
    have hnil := Go.Lib.run_eql_slice_nil (P := Try.prog) w 30 21 (some ⟨g, 0, none⟩) n c 0 0 Try.underlying30
    go_enter Try.func20, Try.ntmps20
    go_wp2_with (first | ((with_reducible refine isl ?_); first | ((with_reducible apply appf hs); exact rfl; exact rfl; exact rfl; exact rfl; exact slty30; exact hs.b1.own_reads.1; exact HR.out; exact HL.out; omega; clear hs; intro a5 c5 w hs) | ((with_reducible refine wrap hs ?_); clear hs; intro w hs) | ((with_reducible refine wrapn hs ?_); clear hs; intro w hs) | ((with_reducible refine wrapd hs ?_); clear hs; intro w hs)))
    go_ret
    exact ⟨_, _, rfl, hs⟩
end Go.Proofs.Ytkldbppldomjhaa
