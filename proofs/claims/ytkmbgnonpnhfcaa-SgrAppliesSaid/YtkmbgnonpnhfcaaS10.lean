import Derived.Test.YtkmbgnonpnhfcaaS9
import Derived.Test.YtkmbgnonpnhfcaaS6
namespace Go.Proofs.Ytkmbgnonpnhfcaa
open Go.RowKit Go.Mem Go.Sgr
variable {W w : World} {H : List HProp}
theorem SL.reads {ad : Option Addr} {n cp : Nat} {l : List Int} (h : SL W H ad n cp l) (hs : sat W H w) : Reads w (.slice ad n cp) (ints l) := h.2.2.2 w hs
theorem apply9_t (a : At) (h : wf a) (l : List Int) (x : At) (hx : apply a l = x) (ad : Option Addr) (n cp : Nat) (hl : SL W H ad n cp l) (hn : n ≤ 100000) (hs : sat W H w) : Calls Try.prog 9 #[atV a, .slice ad n cp] w fun e w' => e = .returned (atV x) ∧ sat W H w' := hx ▸ apply9 a h l ad n cp hl hn hs
theorem sl_of_row {w0 : World} {a : Option Addr} {len cap : Nat} {zs : List Int} (h : IsRow .i64 w0 a len cap zs) : ∃ l, l.length = len ∧ ∀ (W : World) (H : List HProp), SL W (old w0 :: H) a len cap l := by
  rcases h with ⟨rfl, rfl, rfl, rfl⟩ | ⟨x, rfl, hl, hm, hz, hc, hw⟩
  · exact ⟨[], rfl, fun W H => SL.empty rfl⟩
  · refine ⟨zs.take len, by simp; omega, fun W H => ⟨by simp; omega, hl, hm, fun w' hs => ?_⟩⟩
    have hlen : (zs.take len).length = len := by simp; omega
    refine ⟨by rw [List.length_map]; omega, some x, cap, by rw [List.length_map, hlen], fun hne => ?_⟩
    have hp : 0 < zs.length := by
      cases zs with
      | nil => exact (hne (by simp)).elim
      | cons _ _ => simp
    have h0 := hc 0 hp
    obtain ⟨b, off, spot⟩ := x
    have hspot : spot = none := by simpa [Addr.add] using World.cell?_spot h0
    subst hspot
    refine ⟨b, off, rfl, fun i u hu => ?_⟩
    have hi : i < zs.length := by
      have := (List.getElem?_eq_some_iff.1 hu).1; rw [List.length_map, hlen] at this; omega
    have := hc i hi
    rw [add_none] at this
    rw [hs.old_cell this, ← hu]
    have hi2 : i < len := by have := (List.getElem?_eq_some_iff.1 hu).1; rwa [List.length_map, hlen] at this
    simp [List.getElem?_take, hi2, hi]
attribute [local irreducible] World.setCell World.alloc World.drew World.drewN Calls sat cel own blk old wpQuiet flj no go plain follows SL wf apply numbers mayB may
set_option maxHeartbeats 4000000 in
set_option maxRecDepth 8000 in
theorem applies_guard (a : At) (ad : Option Addr) (n cp : Nat) (h : 1000 < n) (hn : n ≤ maxLen) (hs : sat W H w) : Calls Try.prog 4 #[atV a, .slice ad n cp] w fun e w' => e = .returned (.bool true) ∧ sat W H w' := by
  unfold maxLen at hn
  obtain ⟨fg, bg, fl⟩ := a
  go_enter Try.func4, Try.ntmps4
  go_wp2_with (first
    | (go_at_call 7; refine (known7 hs).mono ?_; clear hs; rintro e w ⟨rfl, hs⟩)
    | (apply ld hs.b0; exact rfl; exact rfl; exact rfl; exact rfl; kernel_rfl)
    | (apply ld hs.b1; exact rfl; exact rfl; exact rfl; exact rfl; kernel_rfl)
    | (apply st hs.b0; exact rfl; exact rfl; exact rfl; exact rfl; exact rfl; exact rfl; kernel_rfl; exact rfl; clear hs; intro w hs)
    | (apply st hs.b1; exact rfl; exact rfl; exact rfl; exact rfl; exact rfl; exact rfl; kernel_rfl; exact rfl; clear hs; intro w hs)
    | (apply stc hs.b0; exact rfl; exact rfl; exact rfl; exact rfl; exact rfl; kernel_rfl; exact rfl; clear hs; intro w hs)
    | (apply stc hs.b1; exact rfl; exact rfl; exact rfl; exact rfl; exact rfl; kernel_rfl; exact rfl; clear hs; intro w hs)
    | (refine wrap hs ?_; clear hs; intro w hs)
    | (refine wrapn hs ?_; clear hs; intro w hs)
    | (refine wrapd hs ?_; clear hs; intro w hs))
  go_ret
  exact ⟨rfl, hs.drop⟩
set_option maxHeartbeats 4000000 in
set_option maxRecDepth 8000 in
theorem applies_walk (a : At) (ha : wf a) (w0 : World) (ad : Option Addr) (n cp : Nat) (l : List Int) (h : n ≤ 1000) (hl : SL W (old w0 :: H) ad n cp l) (hs : sat W (old w0 :: H) w) : Calls Try.prog 4 #[atV a, .slice ad n cp] w fun e w' => e = .returned (.bool true) ∧ sat W (old w0 :: H) w' := by
  have HA := Lib.hid ha
  have HL := Lib.hid hl
  have HLn := Lib.hid (show (ints l).length = n by unfold SL at hl; rw [List.length_map, hl.1])
  obtain ⟨x, hx⟩ : ∃ x, apply a l = x := ⟨_, rfl⟩
  obtain ⟨mb, hm⟩ : ∃ b, mayB a = b := ⟨_, rfl⟩
  have HX := Lib.hid hx
  have HM := Lib.hid hm
  obtain ⟨fg, bg, fl⟩ := a
  obtain ⟨xfg, xbg, xfl⟩ := x
  clear ha hl hx hm
  go_enter Try.func4, Try.ntmps4
  go_wp2_with (first
    | (apply appf hs; exact rfl; exact rfl; exact rfl; exact rfl; exact slty26; exact HL.out.more.more.reads hs; exact ints_ok; exact HLn.out; omega; clear hs; intro a5 c5 w hs)
    | (apply lds 3 hs.b0; exact rfl; exact rfl; exact rfl; kernel_rfl; exact rfl; exact rfl)
    | (apply lds 3 hs.b1; exact rfl; exact rfl; exact rfl; kernel_rfl; exact rfl; exact rfl)
    | (apply sts hs.b0; exact rfl; exact rfl; exact rfl; exact rfl; (show rowTy _ _ 3 = true; kernel_rfl); exact Nat.le_refl _; exact rfl; exact rfl; clear hs; intro w hs)
    | (apply sts hs.b1; exact rfl; exact rfl; exact rfl; exact rfl; (show rowTy _ _ 3 = true; kernel_rfl); exact Nat.le_refl _; exact rfl; exact rfl; clear hs; intro w hs)
    | (apply ld hs.b0; exact rfl; exact rfl; exact rfl; exact rfl; kernel_rfl)
    | (apply ld hs.b1; exact rfl; exact rfl; exact rfl; exact rfl; kernel_rfl)
    | (apply st hs.b0; exact rfl; exact rfl; exact rfl; exact rfl; exact rfl; exact rfl; kernel_rfl; exact rfl; clear hs; intro w hs)
    | (apply st hs.b1; exact rfl; exact rfl; exact rfl; exact rfl; exact rfl; exact rfl; kernel_rfl; exact rfl; clear hs; intro w hs)
    | (apply stc hs.b0; exact rfl; exact rfl; exact rfl; exact rfl; exact rfl; kernel_rfl; exact rfl; clear hs; intro w hs)
    | (apply stc hs.b1; exact rfl; exact rfl; exact rfl; exact rfl; exact rfl; kernel_rfl; exact rfl; clear hs; intro w hs)
    | (refine wrap hs ?_; clear hs; (first | (have _t := z2; clear _t; generalize w.heap.size = z5) | generalize w.heap.size = z2); intro w hs)
    | (refine wrap hs ?_; clear hs; intro w hs)
    | (refine wrapn hs ?_; clear hs; intro w hs)
    | (refine wrapd hs ?_; clear hs; intro w hs))
  go_region_held3 (fun w' => w'.cell? ⟨z2, 0, none⟩ = some (.int .u32 fg) ∧ w'.cell? ⟨z2, 1, none⟩ = some (.int .u32 bg) ∧ w'.cell? ⟨z2, 2, none⟩ = some (.int .u16 fl)) (first | exact ⟨hs.b1.cel_cell rfl, hs.b1.cel_cell rfl, hs.b1.cel_cell rfl⟩ | exact ⟨hs.drew.b1.cel_cell rfl, hs.drew.b1.cel_cell rfl, hs.drew.b1.cel_cell rfl⟩ | exact ⟨(hs.drewN _).b1.cel_cell rfl, (hs.drewN _).b1.cel_cell rfl, (hs.drewN _).b1.cel_cell rfl⟩) (first | (go_at_call 8; refine (apply_t _ HA.out l _ HX.out _ _ _ (SL.of_own hs) hs).mono ?_; clear hs; rintro e w ⟨rfl, hs⟩) | (go_at_call 8; refine (apply_t _ HA.out l _ HX.out _ _ _ (SL.of_own hs.drew) hs.drew).mono ?_; clear hs; rintro e w ⟨rfl, hs⟩) | (go_at_call 9; refine (apply9_t _ HA.out l _ HX.out _ _ _ HL.out.more.more (by omega) hs).mono ?_; clear hs; rintro e w ⟨rfl, hs⟩) | (go_at_call 9; refine (apply9_t _ HA.out l _ HX.out _ _ _ HL.out.more.more (by omega) hs.drew).mono ?_; clear hs; rintro e w ⟨rfl, hs⟩) | (go_at_call 10; refine (may10_t _ HA.out HM.out hs).mono ?_; clear hs; rintro e w ⟨rfl, hs⟩) | (go_at_call 10; refine (may10_t _ HA.out HM.out hs.drew).mono ?_; clear hs; rintro e w ⟨rfl, hs⟩) | (go_at_call 11; refine (may11_t _ HA.out HM.out hs).mono ?_; clear hs; rintro e w ⟨rfl, hs⟩) | (go_at_call 11; refine (may11_t _ HA.out HM.out hs.drew).mono ?_; clear hs; rintro e w ⟨rfl, hs⟩) | (go_at_call 12; refine (same_self _ _ l _ (hs.own_reads).1 (HL.out.more.more.reads hs)).mono ?_; rintro e w' ⟨rfl, nn, rfl⟩; replace hs := (hs).drewN nn) | (go_at_call 12; refine (same_self _ _ l _ (hs.drew.own_reads).1 (HL.out.more.more.reads hs.drew)).mono ?_; rintro e w' ⟨rfl, nn, rfl⟩; replace hs := (hs.drew).drewN nn) | (go_at_call 7; refine (known7 hs).mono ?_; clear hs; rintro e w ⟨rfl, hs⟩) | (go_at_call 7; refine (known7 hs.drew).mono ?_; clear hs; rintro e w ⟨rfl, hs⟩))
  go_wp2
  go_ret
  exact ⟨rfl, hs.drop.drop⟩
theorem applies_top {x y z : Int} (w0 : (Lit.int .u32 x).wf = true) (w1 : (Lit.int .u32 y).wf = true) (w2 : (Lit.int .u16 z).wf = true) (ad : Option Addr) (len cap : Nat) (zs : List Int) (w : World) (hr : IsRow .i64 w ad len cap zs) :
    Calls Try.prog 4 #[.agg #[.int .u32 x, .int .u32 y, .int .u16 z], .slice ad len cap] w fun e w' => e = .returned (.bool true) ∧ Below w.heap.size w w' := by
  obtain ⟨l, hl, hsl⟩ := sl_of_row hr
  have := hsl w []
  by_cases h : 1000 < len
  · exact (applies_guard ⟨x, y, z⟩ ad len cap h (by unfold SL at this; omega) (sat.start w)).mono fun _ _ ⟨he, hs⟩ => ⟨he, hs.below⟩
  · exact (applies_walk ⟨x, y, z⟩ (wf_of w0 w1 w2) w ad len cap l (by omega) this (sat.start w)).mono fun _ _ ⟨he, hs⟩ => ⟨he, hs.below⟩
end Go.Proofs.Ytkmbgnonpnhfcaa
