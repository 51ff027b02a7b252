/- Law 16: tick. -/
import Derived.Test.YtkldbppldomjhaaR3
namespace Go.Proofs.Ytkldbppldomjhaa
open Go.RowKit Go.Mem Go.Typed Go.Front Go.Classify
variable {W w : World} {H : List HProp}
attribute [local irreducible] World.setCell World.setCells World.alloc World.drew World.drewN Calls sat cel own blk old wpQuiet wpList tyL ringC rns tyP clP rnl
variable {b z : Nat} {c : Cl}
set_option maxHeartbeats 1000000 in
theorem tick15 {l : List Run} {t : Int} (ok : c.ok) (hl : l.length ≤ 100000) (hs : sat W (clP b c :: lst z l :: H) w) : Calls Try.prog 15 #[.pointer (some ⟨b, 0, none⟩), .int .i64 t, .pointer (some ⟨z, 0, none⟩)] w fun e w' => e = .returned (.tuple #[]) ∧ sat W (clP b (tickc c t).1 :: lst z (l ++ (tickc c t).2) :: H) w' := by
  obtain ⟨n, hn⟩ : ∃ n, c.run.text.length = n := ⟨_, rfl⟩
  obtain ⟨bt, bf, a, cp, hs⟩ := cl_open hn hs
  obtain ⟨k1, k2, k3, k4, k5, k6, k7, k8, k9, k10, k11⟩ := ok
  unfold clC at hs
  have HN := Lib.hid hn
  rw [hn] at k11
  clear hn
  obtain ⟨X, hX⟩ : ∃ X, tick c.now t = X := ⟨_, rfl⟩
  have hX0 : 0 ≤ X ∧ X ≤ 1099511627776 := by rw [← hX]; unfold tick; omega
  have HX : Hid ((if c.now < (if 1099511627776 < t then 1099511627776 else t) then (if 1099511627776 < t then 1099511627776 else t) else c.now) = X) := Lib.hid (by rw [← hX]; unfold tick; split <;> split <;> omega)
  obtain ⟨hX0, hX1⟩ := hX0
  by_cases hq : c.quiet ≤ X - c.last
  · obtain ⟨c', m, he⟩ : ∃ c' m, endr { c with now := X } = (c', m) := ⟨_, _, rfl⟩
    have e : tickc c t = (c', m) := by unfold tickc; rw [hX, if_pos hq, he]
    rw [e]
    have HE := Lib.hid he
    clear e he hX
    go_enter Try.func15, Try.ntmps15
    go_wp2_with (first | ((with_reducible refine isl ?_); first | ((with_reducible apply ld hs.b0); exact rfl; exact rfl; exact rfl; exact rfl; kernel_rfl) | ((with_reducible apply st hs.b0); exact rfl; exact rfl; exact rfl; exact rfl; exact rfl; exact rfl; kernel_rfl; exact rfl; clear hs; intro w hs) | ((with_reducible apply stc hs.b0); exact rfl; exact rfl; exact rfl; exact rfl; exact rfl; kernel_rfl; exact rfl; clear hs; intro w hs) | ((with_reducible refine wrap hs ?_); clear hs; intro w hs) | ((with_reducible refine wrapn hs ?_); clear hs; intro w hs) | ((with_reducible refine wrapd hs ?_); clear hs; intro w hs)))
    all_goals
      rw [HX.out] at hs
      ((try simp only [Act.put, List.setIfInBounds_toArray, List.set_cons_succ, List.set_cons_zero]); refine region_sat hs (by kernel_rfl) (by kernel_rfl) ?_; intro X f hne hf hcl; (repeat ((first | ((with_reducible apply ldq (fun x => (hf x).b0)); exact rfl; exact rfl; exact rfl; exact rfl; kernel_rfl) | go_big_quiet_step (fail)); (try simp only [Act.put, List.setIfInBounds_toArray, List.set_cons_succ, List.set_cons_zero]))); refine wpQuiet_nil ?_; clear hcl hf hne hs f X; intro w hs)
      go_wp2_with (first | (go_at_call 19; refine (end19_as HE.out (by rw [show ({ c with now := X } : Cl).run.text.length = n from HN.out]; omega) hl (c := { c with now := X }) (H := H) (by have h1 := cl_close (c := { c with now := X }) (a := a) (cp := cp) (bt := bt) (bf := bf) HN.out (H := lst z l :: H) (by (refine sb_from ?_ hs; repeat constructor)); exact h1)).mono ?_; clear hs; rintro e w ⟨rfl, hs⟩) | ((with_reducible refine isl ?_); first | ((with_reducible refine wrap hs ?_); clear hs; intro w hs) | ((with_reducible refine wrapn hs ?_); clear hs; intro w hs) | ((with_reducible refine wrapd hs ?_); clear hs; intro w hs)))
      refine end_end0 rfl rfl ?_
      exact ⟨rfl, hs⟩
  · have e : tickc c t = ({ c with now := X }, []) := by unfold tickc; rw [hX, if_neg hq]
    rw [e]
    clear e hX
    go_enter Try.func15, Try.ntmps15
    go_wp2_with (first | ((with_reducible refine isl ?_); first | ((with_reducible apply ld hs.b0); exact rfl; exact rfl; exact rfl; exact rfl; kernel_rfl) | ((with_reducible apply st hs.b0); exact rfl; exact rfl; exact rfl; exact rfl; exact rfl; exact rfl; kernel_rfl; exact rfl; clear hs; intro w hs) | ((with_reducible apply stc hs.b0); exact rfl; exact rfl; exact rfl; exact rfl; exact rfl; kernel_rfl; exact rfl; clear hs; intro w hs) | ((with_reducible refine wrap hs ?_); clear hs; intro w hs) | ((with_reducible refine wrapn hs ?_); clear hs; intro w hs) | ((with_reducible refine wrapd hs ?_); clear hs; intro w hs)))
    all_goals
      rw [HX.out] at hs
      ((try simp only [Act.put, List.setIfInBounds_toArray, List.set_cons_succ, List.set_cons_zero]); refine region_sat hs (by kernel_rfl) (by kernel_rfl) ?_; intro X f hne hf hcl; (repeat ((first | ((with_reducible apply ldq (fun x => (hf x).b0)); exact rfl; exact rfl; exact rfl; exact rfl; kernel_rfl) | go_big_quiet_step (fail)); (try simp only [Act.put, List.setIfInBounds_toArray, List.set_cons_succ, List.set_cons_zero]))); refine wpQuiet_nil ?_; clear hcl hf hne hs f X; intro w hs)
      go_wp2_with fail
      refine end_end0 rfl rfl ?_
      have h1 := cl_close (c := { c with now := X }) (a := a) (cp := cp) (bt := bt) (bf := bf) HN.out (H := lst z l :: H) (by (refine sb_from ?_ hs; repeat constructor))
      refine ⟨rfl, ?_⟩
      first | exact h1 | (rw [List.append_nil]; exact h1)
end Go.Proofs.Ytkldbppldomjhaa
