import Derived.Test.YtjchjdlapacknaaA3
namespace Go.Proofs.Ytjchjdlapacknaa
open Go.RowKit Go.Mem
variable {W w : World} {H : List HProp}
attribute [local irreducible] World.setCell World.setCells World.alloc World.drew World.drewN Calls sat cel own blk old mp wpQuiet

theorem spans_at : ∀ (L : List (Int × Int)) (k : Nat), k < L.length → ((spans L).drop (k * 2)).take 2 = [.int .i32 (L.getD k (0, 0)).1, .int .i32 (L.getD k (0, 0)).2]
  | s :: L, 0, _ => rfl
  | s :: L, k + 1, h => by
    have ih := spans_at L k (by simpa using h)
    show ((.int .i32 s.1 :: .int .i32 s.2 :: spans L).drop ((k + 1) * 2)).take 2 = [.int .i32 (L.getD k (0, 0)).1, .int .i32 (L.getD k (0, 0)).2]
    rw [show (k + 1) * 2 = k * 2 + 1 + 1 from by omega, List.drop_succ_cons, List.drop_succ_cons]
    exact ih
theorem inL_take (L : List (Int × Int)) (r : Int) (k : Nat) (hk : k < L.length) (h : inL (L.take k) r = false) (hn : ¬((L.getD k (0, 0)).1 ≤ r ∧ r ≤ (L.getD k (0, 0)).2)) : inL (L.take (k + 1)) r = false := by
  rw [show L.take (k + 1) = L.take k ++ [L[k]] from List.take_succ_eq_append_getElem hk]
  unfold inL at h ⊢
  rw [List.any_append, h, Bool.false_or]
  rw [List.getD_eq_getElem?_getD, List.getElem?_eq_getElem hk] at hn
  simp only [Option.getD_some] at hn
  simp only [List.any_cons, List.any_nil, Bool.or_false, Bool.and_eq_false_iff, decide_eq_false_iff_not]
  omega
theorem inL_at (L : List (Int × Int)) (r : Int) (k : Nat) (hk : k < L.length) (hn : (L.getD k (0, 0)).1 ≤ r ∧ r ≤ (L.getD k (0, 0)).2) : inL L r = true := by
  rw [inL_iff]
  rw [List.getD_eq_getElem?_getD, List.getElem?_eq_getElem hk] at hn
  exact ⟨L[k], List.getElem_mem _, hn⟩

set_option maxHeartbeats 400000 in
theorem among28 (b T cap : Nat) (L : List (Int × Int)) (r : Int) (hl : L.length ≤ 100) (hs : sat W (cel b T (spans L) :: H) w) :
    Calls Try.prog 28 #[.slice (some ⟨b, 0, none⟩) L.length cap, .int .i32 r] w fun e w' => e = .returned (.bool (inL L r)) ∧ sat W (cel b T (spans L) :: H) w' := by
  have HL := spans_length L
  obtain ⟨n, hn⟩ : ∃ n, n = L.length := ⟨_, rfl⟩
  have HA := Lib.hid (spans_at L)
  have HT := Lib.hid (fun k => inL_take L r k)
  have HI := Lib.hid (fun k => inL_at L r k)
  rw [← hn] at HL hl HA HT HI ⊢
  have HN := Lib.hid hn
  clear hn
  go_enter Try.func28, Try.ntmps28
  go_wp2_with (first
    | (refine wrap hs ?_; clear hs; intro w hs)
    | (refine wrapn hs ?_; clear hs; intro w hs)
    | (refine wrapd hs ?_; clear hs; intro w hs))
  go_loopw [6, 9] (fun _ i wr => ∃ k : Nat, k ≤ n ∧ i = .int .i64 k ∧ inL (L.take k) r = false ∧ sat W (cel b T (spans L) :: H) wr) (fun _ i _ => n - (intOf i).toNat)
  case atStart => exact ⟨0, Nat.zero_le _, rfl, rfl, hs⟩
  case round =>
    clear hs
    obtain ⟨k, hk, rfl, hin, hs⟩ := hrel
    have HIN := Lib.hid hin
    clear hin
    by_cases hlt : k < n
    · have HV := Lib.hid (HA.out k hlt)
      have HT := Lib.hid (fun h => HT.out k hlt HIN.out h)
      have HI := Lib.hid (fun h => HI.out k hlt h)
      generalize L.getD k (0, 0) = s at *
      obtain ⟨lo, hi⟩ := s
      have HM : 2 * k + 2 ≤ (spans L).length := by omega
      by_cases c1 : lo ≤ r
      · have e1 : decide (lo ≤ r) = true := decide_eq_true c1
        by_cases c2 : r ≤ hi
        · have e2 : decide (r ≤ hi) = true := decide_eq_true c2
          have HF := Lib.hid (HI.out ⟨c1, c2⟩)
          clear c1 c2
          go_wp2_with (first
    | (apply lds 2 hs.b0; exact rfl; exact rfl; exact rfl; kernel_rfl; exact HV.out; rfl)
    | (apply sts hs.b0; exact rfl; exact rfl; exact rfl; exact rfl; (show rowTy _ _ 2 = true; kernel_rfl); exact Nat.le_refl _; exact rfl; exact rfl; clear hs; intro w hs)
    | (apply ld hs.b0; exact rfl; exact rfl; exact rfl; exact rfl; kernel_rfl)
    | (apply ld hs.b1; exact rfl; exact rfl; exact rfl; exact rfl; kernel_rfl)
    | (apply st hs.b0; exact rfl; exact rfl; exact rfl; exact rfl; exact rfl; exact rfl; kernel_rfl; exact rfl; clear hs; intro w hs)
    | (apply st hs.b1; exact rfl; exact rfl; exact rfl; exact rfl; exact rfl; exact rfl; kernel_rfl; exact rfl; clear hs; intro w hs)
    | (apply stc hs.b0; exact rfl; exact rfl; exact rfl; exact rfl; exact rfl; kernel_rfl; exact rfl; clear hs; intro w hs)
    | (apply stc hs.b1; exact rfl; exact rfl; exact rfl; exact rfl; exact rfl; kernel_rfl; exact rfl; clear hs; intro w hs)
    | (refine wrap hs ?_; clear hs; intro w hs)
    | (refine wrapn hs ?_; clear hs; intro w hs)
    | (refine wrapd hs ?_; clear hs; intro w hs))
          go_ret
          exact ⟨ret_bool HF.out, hs.drop⟩
        · have e2 : decide (r ≤ hi) = false := decide_eq_false c2
          have HF := Lib.hid (HT.out (fun h => c2 h.2))
          clear c1 c2
          go_wp2_with (first
    | (apply lds 2 hs.b0; exact rfl; exact rfl; exact rfl; kernel_rfl; exact HV.out; rfl)
    | (apply sts hs.b0; exact rfl; exact rfl; exact rfl; exact rfl; (show rowTy _ _ 2 = true; kernel_rfl); exact Nat.le_refl _; exact rfl; exact rfl; clear hs; intro w hs)
    | (apply ld hs.b0; exact rfl; exact rfl; exact rfl; exact rfl; kernel_rfl)
    | (apply ld hs.b1; exact rfl; exact rfl; exact rfl; exact rfl; kernel_rfl)
    | (apply st hs.b0; exact rfl; exact rfl; exact rfl; exact rfl; exact rfl; exact rfl; kernel_rfl; exact rfl; clear hs; intro w hs)
    | (apply st hs.b1; exact rfl; exact rfl; exact rfl; exact rfl; exact rfl; exact rfl; kernel_rfl; exact rfl; clear hs; intro w hs)
    | (apply stc hs.b0; exact rfl; exact rfl; exact rfl; exact rfl; exact rfl; kernel_rfl; exact rfl; clear hs; intro w hs)
    | (apply stc hs.b1; exact rfl; exact rfl; exact rfl; exact rfl; exact rfl; kernel_rfl; exact rfl; clear hs; intro w hs)
    | (refine wrap hs ?_; clear hs; intro w hs)
    | (refine wrapn hs ?_; clear hs; intro w hs)
    | (refine wrapd hs ?_; clear hs; intro w hs))
          go_roundw
          case rel => exact ⟨k + 1, by omega, by go_num, HF.out, hs.drop⟩
          case measure => simp [intOf]; omega
      · have e1 : decide (lo ≤ r) = false := decide_eq_false c1
        have HF := Lib.hid (HT.out (fun h => c1 h.1))
        clear c1
        go_wp2_with (first
    | (apply lds 2 hs.b0; exact rfl; exact rfl; exact rfl; kernel_rfl; exact HV.out; rfl)
    | (apply sts hs.b0; exact rfl; exact rfl; exact rfl; exact rfl; (show rowTy _ _ 2 = true; kernel_rfl); exact Nat.le_refl _; exact rfl; exact rfl; clear hs; intro w hs)
    | (apply ld hs.b0; exact rfl; exact rfl; exact rfl; exact rfl; kernel_rfl)
    | (apply ld hs.b1; exact rfl; exact rfl; exact rfl; exact rfl; kernel_rfl)
    | (apply st hs.b0; exact rfl; exact rfl; exact rfl; exact rfl; exact rfl; exact rfl; kernel_rfl; exact rfl; clear hs; intro w hs)
    | (apply st hs.b1; exact rfl; exact rfl; exact rfl; exact rfl; exact rfl; exact rfl; kernel_rfl; exact rfl; clear hs; intro w hs)
    | (apply stc hs.b0; exact rfl; exact rfl; exact rfl; exact rfl; exact rfl; kernel_rfl; exact rfl; clear hs; intro w hs)
    | (apply stc hs.b1; exact rfl; exact rfl; exact rfl; exact rfl; exact rfl; kernel_rfl; exact rfl; clear hs; intro w hs)
    | (refine wrap hs ?_; clear hs; intro w hs)
    | (refine wrapn hs ?_; clear hs; intro w hs)
    | (refine wrapd hs ?_; clear hs; intro w hs))
        go_roundw
        case rel => exact ⟨k + 1, by omega, by go_num, HF.out, hs.drop⟩
        case measure => simp [intOf]; omega
    · obtain rfl : k = n := by omega
      have HF := Lib.hid (show inL L r = false by have := HIN.out; rw [HN.out, List.take_length] at this; exact this)
      go_wp2_with (first
    | (refine wrap hs ?_; clear hs; intro w hs)
    | (refine wrapn hs ?_; clear hs; intro w hs)
    | (refine wrapd hs ?_; clear hs; intro w hs))
      go_ret
      exact ⟨ret_bool HF.out, hs⟩
end Go.Proofs.Ytjchjdlapacknaa
