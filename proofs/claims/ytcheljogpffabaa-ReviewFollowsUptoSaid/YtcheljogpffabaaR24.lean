/- Law 21: Follows, whatever comes in. -/
import Derived.Test.YtcheljogpffabaaR23
namespace Go.Proofs.Ytcheljogpffabaa
open Go.RowKit Go.Mem Go.Words Go.Deep Go.Rev
variable {W w : World} {H : List HProp}
attribute [local irreducible] rowTy oneTy World.setCell World.setCells World.alloc World.drew World.drewN Calls sat cel own blk old wpQuiet wpList tx onP
set_option maxRecDepth 20000 in
theorem follows5_great {g : Gm} {c : Nat} {by_ : Int} (hga : GA W H g) (hgr : greatG g = true) (hs : sat W H w) :
    Calls Try.prog 5 #[.agg (gV g).toArray, .int .u8 c, .int .i64 by_] w fun e w' => e = .returned (.bool true) ∧ sat W H w' := by
  have HG := Lib.hid hga.1
  have HB := Lib.hid hga.2.1
  have HGR := Lib.hid hgr
  clear hga hgr
  obtain ⟨aR, n, cR, aI, nI, cI, R, I, cy, cx, v1, v2, v3, v4, v5, v6, v7, v8⟩ := g
  go_enter Try.func5, Try.ntmps5
  go_wp2_with (first | (go_at_call 8; refine (great8 (g := ⟨aR, n, cR, aI, nI, cI, R, I, cy, cx, v1, v2, v3, v4, v5, v6, v7, v8⟩) hs (by (first | exact HG.out | exact HG.out.more | exact HG.out.more.more | exact HG.out.more.more.more | exact HG.out.more.more.more.more | exact HG.out.more.more.more.more.more | exact HG.out.more.more.more.more.more.more | exact HG.out.more.more.more.more.more.more.more | exact HG.out.more.more.more.more.more.more.more.more)) HB.out HGR.out).mono ?_; clear hs; rintro e w ⟨rfl, hs⟩) | (go_at_call 7; refine (known7 hs).mono ?_; clear hs; rintro e w ⟨rfl, hs⟩) | ((with_reducible refine isl ?_); first | ((with_reducible apply ldsw hs.b0); exact rfl; exact rfl; exact rfl; exact row34) | ((with_reducible apply ldsw hs.b1); exact rfl; exact rfl; exact rfl; exact row34) | ((with_reducible apply ldsw hs.b2); exact rfl; exact rfl; exact rfl; exact row34) | ((with_reducible apply ld hs.b0); exact rfl; exact rfl; exact rfl; exact rfl; kernel_rfl) | ((with_reducible apply ld hs.b1); exact rfl; exact rfl; exact rfl; exact rfl; kernel_rfl) | ((with_reducible apply st hs.b0); exact rfl; exact rfl; exact rfl; exact rfl; exact rfl; exact rfl; kernel_rfl; exact rfl; clear hs; intro w hs) | ((with_reducible apply st hs.b1); exact rfl; exact rfl; exact rfl; exact rfl; exact rfl; exact rfl; kernel_rfl; exact rfl; clear hs; intro w hs) | ((with_reducible apply stc hs.b0); exact rfl; exact rfl; exact rfl; exact rfl; exact rfl; kernel_rfl; exact rfl; clear hs; intro w hs) | ((with_reducible apply stc hs.b1); exact rfl; exact rfl; exact rfl; exact rfl; exact rfl; kernel_rfl; exact rfl; clear hs; intro w hs) | ((with_reducible refine wrap hs ?_); clear hs; (first | generalize w.heap.size = zg); intro w hs) | ((with_reducible refine wrap hs ?_); clear hs; intro w hs) | ((with_reducible refine wrapn hs ?_); clear hs; intro w hs) | ((with_reducible refine wrapd hs ?_); clear hs; intro w hs)))
  go_ret
  exact ⟨rfl, hs.drop⟩
set_option maxRecDepth 20000 in
theorem follows5_no {g : Gm} {c : Nat} {by_ : Int} (hga : GA W H g) (hgr : greatG g = false) (hn : mayG g.gd = false ∨ c < 1 ∨ 14 < c) (hs : sat W H w) :
    Calls Try.prog 5 #[.agg (gV g).toArray, .int .u8 c, .int .i64 by_] w fun e w' => e = .returned (.bool true) ∧ sat W H w' := by
  have HG := Lib.hid hga.1
  have HB := Lib.hid hga.2.1
  have HGR := Lib.hid hgr
  have HLM := Lib.hid (lim_of hgr)
  obtain ⟨q, hq⟩ : ∃ q, mayG g.gd = q := ⟨_, rfl⟩
  rw [hq] at hn
  have HMY := Lib.hid hq
  clear hga hgr hq
  obtain ⟨aR, n, cR, aI, nI, cI, R, I, cy, cx, v1, v2, v3, v4, v5, v6, v7, v8⟩ := g
  cases q with
  | false =>
    clear hn
    go_enter Try.func5, Try.ntmps5
    go_wp2_with (first | (go_at_call 8; refine (great8 (g := ⟨aR, n, cR, aI, nI, cI, R, I, cy, cx, v1, v2, v3, v4, v5, v6, v7, v8⟩) hs (by (first | exact HG.out | exact HG.out.more | exact HG.out.more.more | exact HG.out.more.more.more | exact HG.out.more.more.more.more | exact HG.out.more.more.more.more.more | exact HG.out.more.more.more.more.more.more | exact HG.out.more.more.more.more.more.more.more | exact HG.out.more.more.more.more.more.more.more.more)) HB.out HGR.out).mono ?_; clear hs; rintro e w ⟨rfl, hs⟩) | (go_at_call 11; refine (may11 (g := ⟨aR, n, cR, aI, nI, cI, R, I, cy, cx, v1, v2, v3, v4, v5, v6, v7, v8⟩) hs (by (first | exact HG.out | exact HG.out.more | exact HG.out.more.more | exact HG.out.more.more.more | exact HG.out.more.more.more.more | exact HG.out.more.more.more.more.more | exact HG.out.more.more.more.more.more.more | exact HG.out.more.more.more.more.more.more.more | exact HG.out.more.more.more.more.more.more.more.more)) HLM.out HMY.out).mono ?_; clear hs; rintro e w ⟨rfl, hs⟩) | (go_at_call 7; refine (known7 hs).mono ?_; clear hs; rintro e w ⟨rfl, hs⟩) | ((with_reducible refine isl ?_); first | ((with_reducible apply ldsw hs.b0); exact rfl; exact rfl; exact rfl; exact row34) | ((with_reducible apply ldsw hs.b1); exact rfl; exact rfl; exact rfl; exact row34) | ((with_reducible apply ldsw hs.b2); exact rfl; exact rfl; exact rfl; exact row34) | ((with_reducible apply ld hs.b0); exact rfl; exact rfl; exact rfl; exact rfl; kernel_rfl) | ((with_reducible apply ld hs.b1); exact rfl; exact rfl; exact rfl; exact rfl; kernel_rfl) | ((with_reducible apply st hs.b0); exact rfl; exact rfl; exact rfl; exact rfl; exact rfl; exact rfl; kernel_rfl; exact rfl; clear hs; intro w hs) | ((with_reducible apply st hs.b1); exact rfl; exact rfl; exact rfl; exact rfl; exact rfl; exact rfl; kernel_rfl; exact rfl; clear hs; intro w hs) | ((with_reducible apply stc hs.b0); exact rfl; exact rfl; exact rfl; exact rfl; exact rfl; kernel_rfl; exact rfl; clear hs; intro w hs) | ((with_reducible apply stc hs.b1); exact rfl; exact rfl; exact rfl; exact rfl; exact rfl; kernel_rfl; exact rfl; clear hs; intro w hs) | ((with_reducible refine wrap hs ?_); clear hs; (first | generalize w.heap.size = zg); intro w hs) | ((with_reducible refine wrap hs ?_); clear hs; intro w hs) | ((with_reducible refine wrapn hs ?_); clear hs; intro w hs) | ((with_reducible refine wrapd hs ?_); clear hs; intro w hs)))
    go_ret
    exact ⟨rfl, hs.drop⟩
  | true =>
    by_cases h1 : c < 1
    · have f8 : decide ((c : Int) < 1) = true := decide_eq_true (by omega)
      clear hn h1
      go_enter Try.func5, Try.ntmps5
      go_wp2_with (first | (go_at_call 8; refine (great8 (g := ⟨aR, n, cR, aI, nI, cI, R, I, cy, cx, v1, v2, v3, v4, v5, v6, v7, v8⟩) hs (by (first | exact HG.out | exact HG.out.more | exact HG.out.more.more | exact HG.out.more.more.more | exact HG.out.more.more.more.more | exact HG.out.more.more.more.more.more | exact HG.out.more.more.more.more.more.more | exact HG.out.more.more.more.more.more.more.more | exact HG.out.more.more.more.more.more.more.more.more)) HB.out HGR.out).mono ?_; clear hs; rintro e w ⟨rfl, hs⟩) | (go_at_call 11; refine (may11 (g := ⟨aR, n, cR, aI, nI, cI, R, I, cy, cx, v1, v2, v3, v4, v5, v6, v7, v8⟩) hs (by (first | exact HG.out | exact HG.out.more | exact HG.out.more.more | exact HG.out.more.more.more | exact HG.out.more.more.more.more | exact HG.out.more.more.more.more.more | exact HG.out.more.more.more.more.more.more | exact HG.out.more.more.more.more.more.more.more | exact HG.out.more.more.more.more.more.more.more.more)) HLM.out HMY.out).mono ?_; clear hs; rintro e w ⟨rfl, hs⟩) | (go_at_call 7; refine (known7 hs).mono ?_; clear hs; rintro e w ⟨rfl, hs⟩) | ((with_reducible refine isl ?_); first | ((with_reducible apply ldsw hs.b0); exact rfl; exact rfl; exact rfl; exact row34) | ((with_reducible apply ldsw hs.b1); exact rfl; exact rfl; exact rfl; exact row34) | ((with_reducible apply ldsw hs.b2); exact rfl; exact rfl; exact rfl; exact row34) | ((with_reducible apply ld hs.b0); exact rfl; exact rfl; exact rfl; exact rfl; kernel_rfl) | ((with_reducible apply ld hs.b1); exact rfl; exact rfl; exact rfl; exact rfl; kernel_rfl) | ((with_reducible apply st hs.b0); exact rfl; exact rfl; exact rfl; exact rfl; exact rfl; exact rfl; kernel_rfl; exact rfl; clear hs; intro w hs) | ((with_reducible apply st hs.b1); exact rfl; exact rfl; exact rfl; exact rfl; exact rfl; exact rfl; kernel_rfl; exact rfl; clear hs; intro w hs) | ((with_reducible apply stc hs.b0); exact rfl; exact rfl; exact rfl; exact rfl; exact rfl; kernel_rfl; exact rfl; clear hs; intro w hs) | ((with_reducible apply stc hs.b1); exact rfl; exact rfl; exact rfl; exact rfl; exact rfl; kernel_rfl; exact rfl; clear hs; intro w hs) | ((with_reducible refine wrap hs ?_); clear hs; (first | generalize w.heap.size = zg); intro w hs) | ((with_reducible refine wrap hs ?_); clear hs; intro w hs) | ((with_reducible refine wrapn hs ?_); clear hs; intro w hs) | ((with_reducible refine wrapd hs ?_); clear hs; intro w hs)))
      go_ret
      exact ⟨rfl, hs.drop⟩
    · have f8 : decide ((c : Int) < 1) = false := decide_eq_false (by omega)
      have f9 : decide ((14 : Int) < (c : Int)) = true := decide_eq_true (by simp at hn; omega)
      clear hn h1
      go_enter Try.func5, Try.ntmps5
      go_wp2_with (first | (go_at_call 8; refine (great8 (g := ⟨aR, n, cR, aI, nI, cI, R, I, cy, cx, v1, v2, v3, v4, v5, v6, v7, v8⟩) hs (by (first | exact HG.out | exact HG.out.more | exact HG.out.more.more | exact HG.out.more.more.more | exact HG.out.more.more.more.more | exact HG.out.more.more.more.more.more | exact HG.out.more.more.more.more.more.more | exact HG.out.more.more.more.more.more.more.more | exact HG.out.more.more.more.more.more.more.more.more)) HB.out HGR.out).mono ?_; clear hs; rintro e w ⟨rfl, hs⟩) | (go_at_call 11; refine (may11 (g := ⟨aR, n, cR, aI, nI, cI, R, I, cy, cx, v1, v2, v3, v4, v5, v6, v7, v8⟩) hs (by (first | exact HG.out | exact HG.out.more | exact HG.out.more.more | exact HG.out.more.more.more | exact HG.out.more.more.more.more | exact HG.out.more.more.more.more.more | exact HG.out.more.more.more.more.more.more | exact HG.out.more.more.more.more.more.more.more | exact HG.out.more.more.more.more.more.more.more.more)) HLM.out HMY.out).mono ?_; clear hs; rintro e w ⟨rfl, hs⟩) | (go_at_call 7; refine (known7 hs).mono ?_; clear hs; rintro e w ⟨rfl, hs⟩) | ((with_reducible refine isl ?_); first | ((with_reducible apply ldsw hs.b0); exact rfl; exact rfl; exact rfl; exact row34) | ((with_reducible apply ldsw hs.b1); exact rfl; exact rfl; exact rfl; exact row34) | ((with_reducible apply ldsw hs.b2); exact rfl; exact rfl; exact rfl; exact row34) | ((with_reducible apply ld hs.b0); exact rfl; exact rfl; exact rfl; exact rfl; kernel_rfl) | ((with_reducible apply ld hs.b1); exact rfl; exact rfl; exact rfl; exact rfl; kernel_rfl) | ((with_reducible apply st hs.b0); exact rfl; exact rfl; exact rfl; exact rfl; exact rfl; exact rfl; kernel_rfl; exact rfl; clear hs; intro w hs) | ((with_reducible apply st hs.b1); exact rfl; exact rfl; exact rfl; exact rfl; exact rfl; exact rfl; kernel_rfl; exact rfl; clear hs; intro w hs) | ((with_reducible apply stc hs.b0); exact rfl; exact rfl; exact rfl; exact rfl; exact rfl; kernel_rfl; exact rfl; clear hs; intro w hs) | ((with_reducible apply stc hs.b1); exact rfl; exact rfl; exact rfl; exact rfl; exact rfl; kernel_rfl; exact rfl; clear hs; intro w hs) | ((with_reducible refine wrap hs ?_); clear hs; (first | generalize w.heap.size = zg); intro w hs) | ((with_reducible refine wrap hs ?_); clear hs; intro w hs) | ((with_reducible refine wrapn hs ?_); clear hs; intro w hs) | ((with_reducible refine wrapd hs ?_); clear hs; intro w hs)))
      go_ret
      exact ⟨rfl, hs.drop⟩
theorem bulk_three {E : Type} {d1 : DataW E} {r : List (DataW E)} (hk : Rows.uptoSmall E (d1 :: r) = true) : Rows.uptoBulk d1 ≤ 1048576 := by
  have h := of_decide_eq_true hk
  simp only [Rows.uptoBulkAll] at h
  omega
theorem follows_top {E : Type} {enc : TypeId × Value → E} (cs : Array Value) (a b : Int) (d1 : DataW E) (w : World) (h1 : RdD enc Try.prog w 34 cs.toList d1) (h2 : (Lit.int .u8 a).wf = true) (_h3 : (Lit.int .i64 b).wf = true) (hk : Rows.uptoSmall E [d1, .lit (.int .u8 a), .lit (.int .i64 b)] = true) :
    Calls Try.prog 5 #[.agg cs, .int .u8 a, .int .i64 b] w fun e w' => e = .returned (.bool true) ∧ Below w.heap.size w w' := by
  obtain ⟨g, hg, hgo⟩ := grid_rd h1
  have hb := bulk_three hk
  have ha : 0 ≤ a ∧ a ≤ 255 := by
    simp [Lit.wf, IntKind.min, IntKind.max, IntKind.signed, IntKind.bits] at h2
    omega
  obtain ⟨c, rfl⟩ : ∃ c : Nat, a = c := ⟨a.toNat, by omega⟩
  have e1 : cs = (gV g).toArray := by rw [← hg]
  rw [e1]
  have hga : GA w [old w] g := ⟨hgo.1 w [], fun r hr => by have := hgo.2.1 r hr; omega, hgo.2.2⟩
  by_cases hgr : greatG g = true
  · exact (follows5_great hga hgr (sat.start w)).mono fun _ _ ⟨he, hs⟩ => ⟨he, hs.below⟩
  · have hgr : greatG g = false := by simpa using hgr
    by_cases hmy : mayG g.gd = true
    · by_cases hcc : 1 ≤ c ∧ c ≤ 14
      · exact (follows5 hga ((lim_of hgr).fit hga.1 hmy) (lim_of hgr) hgr hcc (sat.start w)).mono fun _ _ ⟨he, hs⟩ => ⟨he, hs.below⟩
      · exact (follows5_no hga hgr (.inr (by omega)) (sat.start w)).mono fun _ _ ⟨he, hs⟩ => ⟨he, hs.below⟩
    · exact (follows5_no hga hgr (.inl (by simpa using hmy)) (sat.start w)).mono fun _ _ ⟨he, hs⟩ => ⟨he, hs.below⟩
end Go.Proofs.Ytcheljogpffabaa
