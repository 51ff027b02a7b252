/- Law 18: QueueInterrupts, of any arguments. -/
import Derived.Test.YtinfgebdcjaabaaQ19
namespace Go.Proofs.Ytinfgebdcjaabaa
open Go.RowKit Go.Mem Go.Queue
variable {W w : World} {H : List HProp}
attribute [local irreducible] World.setCell World.setCells World.alloc World.drew World.drewN Calls sat cel own blk old wpQuiet wpList qu uts gn World.rangeAt tru leastUpto bestUpto si Utf8.decode wc wst wordsOf may PutPost put accept mark
variable {b : Nat} {q : Qu}
theorem inter3_no {s : Int} (hb : s < 1 ∨ 64 < s) {a : Option Addr} {n c : Nat} {u : Ut} (hs : sat W H w) :
    Calls Try.prog 3 #[.int .i64 s, .slice a n c, utV u] w fun e w' => e = .returned (.bool true) ∧ sat W H w' := by
  have HB := Lib.hid hb
  clear hb
  go_enter Try.func3, Try.ntmps3
  go_wp2_with (first | (go_at_call 7; (first | refine (new7_no HB.out hs.b0).mono ?_ | refine (new7_no HB.out hs.b1).mono ?_); clear hs; rintro e w ⟨rfl, hs⟩) | (go_at_call 9; (first | refine (known9 hs).mono ?_); clear hs; rintro e w ⟨rfl, hs⟩) | ((with_reducible refine isl ?_); first | ((with_reducible apply ld hs.b0); exact rfl; exact rfl; exact rfl; exact rfl; kernel_rfl) | ((with_reducible apply ld hs.b1); exact rfl; exact rfl; exact rfl; exact rfl; kernel_rfl) | ((with_reducible apply ld hs.b2); exact rfl; exact rfl; exact rfl; exact rfl; kernel_rfl) | ((with_reducible apply ld hs.b3); exact rfl; exact rfl; exact rfl; exact rfl; kernel_rfl) | ((with_reducible apply st hs.b0); exact rfl; exact rfl; exact rfl; exact rfl; exact rfl; exact rfl; kernel_rfl; exact rfl; clear hs; intro w hs) | ((with_reducible apply st hs.b1); exact rfl; exact rfl; exact rfl; exact rfl; exact rfl; exact rfl; kernel_rfl; exact rfl; clear hs; intro w hs) | ((with_reducible apply st hs.b2); exact rfl; exact rfl; exact rfl; exact rfl; exact rfl; exact rfl; kernel_rfl; exact rfl; clear hs; intro w hs) | ((with_reducible apply st hs.b3); exact rfl; exact rfl; exact rfl; exact rfl; exact rfl; exact rfl; kernel_rfl; exact rfl; clear hs; intro w hs) | ((with_reducible apply stc hs.b0); exact rfl; exact rfl; exact rfl; exact rfl; exact rfl; kernel_rfl; exact rfl; clear hs; intro w hs) | ((with_reducible apply stc hs.b1); exact rfl; exact rfl; exact rfl; exact rfl; exact rfl; kernel_rfl; exact rfl; clear hs; intro w hs) | ((with_reducible apply stc hs.b2); exact rfl; exact rfl; exact rfl; exact rfl; exact rfl; kernel_rfl; exact rfl; clear hs; intro w hs) | ((with_reducible apply stc hs.b3); exact rfl; exact rfl; exact rfl; exact rfl; exact rfl; kernel_rfl; exact rfl; clear hs; intro w hs) | ((with_reducible refine wrap hs ?_); clear hs; (first | generalize w.heap.size = z5); intro w hs) | ((with_reducible refine wrap hs ?_); clear hs; intro w hs) | ((with_reducible refine wrapn hs ?_); clear hs; intro w hs) | ((with_reducible refine wrapd hs ?_); clear hs; intro w hs)))
  go_ret
  exact ⟨rfl, by (first | exact hs.dropN 0 | exact hs.dropN 1 | exact hs.dropN 2 | exact hs.dropN 3 | exact hs.dropN 4 | exact hs.dropN 5 | exact hs.dropN 6 | exact hs.dropN 7 | exact hs.dropN 8 | exact hs.dropN 9 | exact hs.dropN 10 | exact hs.dropN 11 | exact hs.dropN 12 | exact hs.dropN 13 | exact hs.dropN 14 | exact hs.dropN 15)⟩
section
variable {E : Type} {enc : TypeId × Value → E}
theorem rd_ops {a : Option Addr} {n c : Nat} (h : Rd enc Try.prog w 22 [.slice a n c]) : ∃ l : List Op, (∀ o ∈ l, wfOp o) ∧ ∀ (W : World) (H : List HProp), SR 8 W (old w :: H) a n c (l.map opC) := by
  obtain ⟨L, h1, h2, h3, h4, h5⟩ := rd_slice Try.underlying22 cells33 (by decide) h
  have key : ∀ L : List (List Value), (∀ cs ∈ L, Rd enc Try.prog w 33 cs) → ∃ l : List Op, L = l.map opC ∧ ∀ o ∈ l, wfOp o := by
    intro L
    induction L with
    | nil => exact fun _ => ⟨[], rfl, by simp⟩
    | cons cs L ih =>
      intro hL
      obtain ⟨l, e, hl⟩ := ih fun cs hc => hL cs (by simp [hc])
      obtain ⟨o, e2, ho⟩ := rd_op (hL cs (by simp))
      exact ⟨o :: l, by rw [e, e2]; rfl, fun x hx => by
        rcases List.mem_cons.1 hx with rfl | hx
        · exact ho
        · exact hl x hx⟩
  obtain ⟨l, e, hl⟩ := key L h4
  subst e
  exact ⟨l, hl, fun W H => h5.sr h1 h2 h3 W H⟩
theorem inter_said (a0 : Int) (a1 : Option Addr) (n1 c1 : Nat) (cs : Array Value) (w : World) (w0 : (Lit.int .i64 a0).wf = true) (r1 : Rd enc Try.prog w 22 [.slice a1 n1 c1]) (r2 : Rd enc Try.prog w 25 cs.toList) :
    Calls Try.prog 3 #[.int .i64 a0, .slice a1 n1 c1, .agg cs] w fun e w' => e = .returned (.bool true) ∧ Below w.heap.size w w' := by
  obtain ⟨u, e, _⟩ := rd_ut r2
  have e : cs = (utC u).toArray := by rw [← e]
  subst e
  obtain ⟨l, _, hl⟩ := rd_ops r1
  by_cases hb : a0 < 1 ∨ 64 < a0
  · exact (inter3_no hb (sat.start w)).mono fun e w' ⟨he, hs⟩ => ⟨he, hs.below⟩
  · obtain ⟨m, rfl⟩ : ∃ m : Nat, a0 = m := ⟨a0.toNat, by omega⟩
    exact (inter3 (m := m) (by omega) (by omega) (hl w []) (sat.start w)).mono fun e w' ⟨he, hs⟩ => ⟨he, hs.below⟩
end
end Go.Proofs.Ytinfgebdcjaabaa
