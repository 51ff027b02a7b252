import Derived.Test.YtkldbppldomjhaaE3
namespace Go.Proofs.Ytkldbppldomjhaa
open Go.RowKit Go.Mem Go.Typed
variable {W w : World} {H : List HProp}
/-- Take's answer, and what is awaited behind it. -/
def take (q : List One) (r t : Int) : List One × Bool :=
  match expire t q with
  | [] => ([], false)
  | x :: l => if x.r = r then (l, true) else (x :: l, false)
theorem expire_le : ∀ (q : List One) (t : Int), (expire t q).length ≤ q.length
  | [], _ => Nat.le_refl _
  | x :: q, t => by
    unfold expire
    split
    · have := expire_le q t; simp; omega
    · exact Nat.le_refl _
theorem queue_cons {g : Nat → One} {f n : Nat} (h : 0 < n) : queue g f n = g (f % 64) :: queue g ((f + 1) % 64) (n - 1) := by
  rw [queue_drop h]
  have h0 := queue_get (g := g) (f := f) h
  cases hq : queue g f n with
  | nil => rw [hq] at h0; simp at h0
  | cons x l => rw [hq] at h0; simp at h0; simp [h0]
theorem queue_nil {g : Nat → One} {f : Nat} : queue g f 0 = [] := rfl
def nOf (b : Nat) (w : World) : Nat := match w.cell? ⟨b, 129, none⟩ with | some (.int _ k) => k.toNat | _ => 0
theorem nOf_eq {g : Nat → One} {f n : Nat} {life now : Int} {b : Nat} (hs : sat W (cel b 63 (tyL g f n life now) :: H) w) : nOf b w = n := by
  unfold nOf; rw [hs.cel_cell ty_n]; simp
theorem un_bne {n k : Int} (h : n ≠ k) : (n != k) = true := by simpa using h
attribute [local irreducible] World.setCell World.setCells World.alloc World.drew World.drewN Calls sat cel own blk old wpQuiet wpList tyL ringC nOf
variable {g : Nat → One} {f n : Nat} {life now : Int} {b : Nat}
set_option maxHeartbeats 1000000 in
theorem take8 {q : List One} (r t : Int) (hl : 0 < life) (hs : TY W b q life now H w) : Calls Try.prog 16 #[.pointer (some ⟨b, 0, none⟩), .int .i32 r, .int .i64 t] w fun e w' => e = .returned (.bool (take q r (tick now t)).2) ∧ TY W b (take q r (tick now t)).1 life (tick now t) H w' := by
  obtain ⟨g, f, n, hf, hn, hq, hs⟩ := hs
  generalize htk : tick now t = tk
  have HT := Lib.hid htk
  have HQ := Lib.hid hq
  clear htk hq
  go_enter Try.func16, Try.ntmps16
  go_wp2_with (first | (go_at_call 23; refine (none_s hl hs).mono ?_; clear hs; rintro e w ⟨rfl, hs⟩) | (go_at_call 24; refine (tick14 t hs).mono ?_; clear hs; rintro e w ⟨rfl, hs⟩; rw [HT.out] at hs ⊢) | ((with_reducible refine isl ?_); first | ((with_reducible refine wrap hs ?_); clear hs; intro w hs) | ((with_reducible refine wrapn hs ?_); clear hs; intro w hs) | ((with_reducible refine wrapd hs ?_); clear hs; intro w hs)))
  go_loopw [] (fun wr => ∃ g f n, f < 64 ∧ n ≤ 64 ∧ Hid (expire tk (queue g f n) = expire tk q) ∧ sat W (cel b 63 (tyL g f n life tk) :: H) wr) (fun wr => nOf b wr)
  case atStart => exact ⟨g, f, n, hf, hn, Lib.hid (by rw [HQ.out]), hs⟩
  case round =>
    clear hs hf hn HQ
    obtain ⟨g, f, n, hf, hn, HQ, hs⟩ := hrel
    by_cases h0 : n = 0
    · subst h0
      have HR := Lib.hid (show take q r tk = ([], false) by unfold take; rw [← HQ.out]; rfl)
      go_wp2_with (first | ((with_reducible refine isl ?_); first | ((with_reducible apply ld hs); exact rfl; exact rfl; exact rfl; exact ty_n; kernel_rfl) | ((with_reducible refine wrap hs ?_); clear hs; intro w hs) | ((with_reducible refine wrapn hs ?_); clear hs; intro w hs) | ((with_reducible refine wrapd hs ?_); clear hs; intro w hs)))
      go_ret
      rw [HR.out]
      exact ⟨rfl, g, f, 0, hf, hn, rfl, hs⟩
    · have hn0 : 0 < n := by omega
      have b0 : ((n : Int) == 0) = false := beq_no (by omega)
      have hc := queue_cons (g := g) (f := f) hn0
      by_cases ht : (g (f % 64)).to ≤ tk
      · have HE := Lib.hid (show expire tk (queue g ((f + 1) % 64) (n - 1)) = expire tk q by rw [← HQ.out, hc]; simp [expire, ht])
        have hm := nOf_eq hs
        have HM := Lib.hid hm
        clear hm hc h0
        go_wp2_with (first | (go_at_call 25; refine (at_s (i := 0) (by omega) hf (by omega) hs).mono ?_; clear hs; rintro e w ⟨rfl, hs⟩) | (go_at_call 26; refine (drop16 hf (by omega) (by omega) hs).mono ?_; clear hs; rintro e w ⟨rfl, hs⟩) | ((with_reducible refine isl ?_); first | ((with_reducible apply ld hs); exact rfl; exact rfl; exact rfl; (first | exact ty_n | exact ty_to (by omega)); kernel_rfl) | ((with_reducible refine wrap hs ?_); clear hs; intro w hs) | ((with_reducible refine wrapn hs ?_); clear hs; intro w hs) | ((with_reducible refine wrapd hs ?_); clear hs; intro w hs)))
        go_roundw
        case rel => exact ⟨g, _, _, by omega, by omega, HE, hs⟩
        case measure => rw [HM.out, nOf_eq hs]; omega
      · have hx : expire tk q = g (f % 64) :: queue g ((f + 1) % 64) (n - 1) := by rw [← HQ.out, hc]; simp [expire, ht]
        by_cases hr : (g (f % 64)).r = r
        · have HR := Lib.hid (show take q r tk = (queue g ((f + 1) % 64) (n - 1), true) by unfold take; rw [hx]; simp [hr])
          clear hx hc h0
          go_wp2_with (first | (go_at_call 25; refine (at_s (i := 0) (by omega) hf (by omega) hs).mono ?_; clear hs; rintro e w ⟨rfl, hs⟩) | (go_at_call 26; refine (drop16 hf (by omega) (by omega) hs).mono ?_; clear hs; rintro e w ⟨rfl, hs⟩) | ((with_reducible refine isl ?_); first | ((with_reducible apply ld hs); exact rfl; exact rfl; exact rfl; (first | exact ty_n | exact ty_to (by omega) | exact ty_r (by omega)); kernel_rfl) | ((with_reducible refine wrap hs ?_); clear hs; intro w hs) | ((with_reducible refine wrapn hs ?_); clear hs; intro w hs) | ((with_reducible refine wrapd hs ?_); clear hs; intro w hs)))
          go_ret
          rw [HR.out]
          exact ⟨rfl, g, _, _, by omega, by omega, rfl, hs⟩
        · have HR := Lib.hid (show take q r tk = (queue g f n, false) by unfold take; rw [hx, hc]; simp [hr])
          have b1 := un_bne hr
          clear hx hc h0 hr
          go_wp2_with (first | (go_at_call 25; refine (at_s (i := 0) (by omega) hf (by omega) hs).mono ?_; clear hs; rintro e w ⟨rfl, hs⟩) | (go_at_call 26; refine (drop16 hf (by omega) (by omega) hs).mono ?_; clear hs; rintro e w ⟨rfl, hs⟩) | ((with_reducible refine isl ?_); first | ((with_reducible apply ld hs); exact rfl; exact rfl; exact rfl; (first | exact ty_n | exact ty_to (by omega) | exact ty_r (by omega)); kernel_rfl) | ((with_reducible refine wrap hs ?_); clear hs; intro w hs) | ((with_reducible refine wrapn hs ?_); clear hs; intro w hs) | ((with_reducible refine wrapd hs ?_); clear hs; intro w hs)))
          go_ret
          rw [HR.out]
          exact ⟨rfl, g, _, _, by omega, by omega, rfl, hs⟩
end Go.Proofs.Ytkldbppldomjhaa
