import Derived.Test.YtaajgkccannjlaaT4
namespace Go.Proofs.Ytaajgkccannjlaa
open Go.RowKit Go.Mem Go.Utf
variable {W w : World} {H : List HProp}
attribute [local irreducible] World.setCell World.alloc World.drew World.drewN Calls sat cel own blk old wpQuiet first size begins more SK val head
theorem val_nil (r : Int) : val r [] = r := by unfold val; rfl
theorem val_cons (r x : Int) (t : List Int) : val r (x :: t) = val (r * 64 + (x - 128)) t := by conv => lhs; unfold val
theorem head1 {a : Int} (h : size a = 1) : head a = a := by unfold head; rw [if_pos h]
theorem value_cons (a : Int) (t : List Int) : value (a :: t) = val (head a) t := rfl
def VB (j : Nat) (r : Int) : Prop := (j = 1 → -256 ≤ r ∧ r ≤ 256) ∧ (j = 2 → -20000 ≤ r ∧ r ≤ 20000) ∧ (j = 3 → -1300000 ≤ r ∧ r ≤ 1300000) ∧ (j = 4 → -90000000 ≤ r ∧ r ≤ 90000000)
theorem VB.bd {j : Nat} {r : Int} (h : VB j r) (h1 : 1 ≤ j) (h2 : j < 4) : -1300000 ≤ r ∧ r ≤ 1300000 := by
  unfold VB at h; omega
theorem VB.step {j : Nat} {r x : Int} (h : VB j r) (h1 : 1 ≤ j) (h2 : j < 4) (h3 : 0 ≤ x) (h4 : x < 256) : VB (j + 1) (r * 64 + x - 128) := by
  unfold VB at h ⊢; omega
theorem VB.one {r : Int} (h : -256 ≤ r ∧ r ≤ 256) : VB 1 r := by unfold VB; omega
attribute [local irreducible] VB value
set_option maxHeartbeats 4000000 in
theorem value25 (ad : Option Addr) (n cp : Nat) (a : Int) (t : List Int) (hl : SK .u8 W H ad n cp (a :: t)) (hb : ∀ x ∈ a :: t, 0 ≤ x ∧ x < 256) (hsz : size a = n) (hs : sat W H w) :
    Calls Try.prog 25 #[.slice ad n cp] w fun e w' => e = .returned (.int .i32 (value (a :: t))) ∧ sat W H w' := by
  have hn : n = t.length + 1 := by unfold SK at hl; exact hl.1
  have hn4 : n ≤ 4 := by rw [← hsz]; exact size_le a
  obtain ⟨b, off, rfl⟩ := hl.ptr hs (by omega)
  obtain ⟨ha0, ha1⟩ := hb a (List.mem_cons_self ..)
  have C0 : Hid (∀ w', sat W H w' → w'.cell? ⟨b, off, none⟩ = some (.int .u8 a)) := Lib.hid (hl.at 0 a rfl)
  have HL := Lib.hid hl
  have HB := Lib.hid hb
  obtain ⟨v, hv⟩ : ∃ v, value (a :: t) = v := ⟨_, rfl⟩
  have HV : Hid (v = val (head a) t) := Lib.hid (by rw [← hv]; exact value_cons a t)
  rw [hv]
  have HLen := Lib.hid hn
  clear hl hb hv hn
  have hc : n = 1 ∨ n = 2 ∨ n = 3 ∨ n = 4 := by have := HLen.out; omega
  rcases hc with rfl | rfl | rfl | rfl
  · have HH := Lib.hid (head1 hsz)
    clear hsz
    as_aux_lemma =>
      go_enter Try.func25, Try.ntmps25
      go_wp2_with (first
    | (apply ldc; exact rfl; exact rfl; exact rfl; (first | exact C0.out _ hs | exact CX.out _ hs); kernel_rfl)
    | (refine wrap hs ?_; clear hs; intro w hs)
    | (refine wrapn hs ?_; clear hs; intro w hs)
    | (refine wrapd hs ?_; clear hs; intro w hs))
      go_loopw [3, 4] (fun rv iv wr => ∃ (j : Nat) (r : Int), 1 ≤ j ∧ j ≤ 1 ∧ rv = .int .i32 r ∧ iv = .int .i64 j ∧ Hid (v = val r (t.drop (j - 1))) ∧ VB j r ∧ sat W H wr) (fun _ iv _ => 1 - (intOf iv).toNat)
      case atStart => exact ⟨1, _, by decide, by decide, rfl, rfl, Lib.hid (by rw [HV.out, HH.out]; rfl), VB.one (by omega), hs⟩
      case round =>
        clear hs
        obtain ⟨j, r, h1, h2, rfl, rfl, HR, hvb, hs⟩ := hrel
        by_cases hlt : j < 1
        · exfalso; omega
        · have HE : Hid (v = r) := Lib.hid (by rw [HR.out, List.drop_of_length_le (by have := HLen.out; omega), val_nil])
          go_wp2_with (first
    | (refine wrap hs ?_; clear hs; intro w hs)
    | (refine wrapn hs ?_; clear hs; intro w hs)
    | (refine wrapd hs ?_; clear hs; intro w hs))
          go_ret
          exact ⟨by rw [HE.out]; try rfl, hs⟩
  · have HH := Lib.hid (head2 hsz)
    clear hsz
    as_aux_lemma =>
      go_enter Try.func25, Try.ntmps25
      go_wp2_with (first
    | (apply ldc; exact rfl; exact rfl; exact rfl; (first | exact C0.out _ hs | exact CX.out _ hs); kernel_rfl)
    | (refine wrap hs ?_; clear hs; intro w hs)
    | (refine wrapn hs ?_; clear hs; intro w hs)
    | (refine wrapd hs ?_; clear hs; intro w hs))
      go_loopw [3, 4] (fun rv iv wr => ∃ (j : Nat) (r : Int), 1 ≤ j ∧ j ≤ 2 ∧ rv = .int .i32 r ∧ iv = .int .i64 j ∧ Hid (v = val r (t.drop (j - 1))) ∧ VB j r ∧ sat W H wr) (fun _ iv _ => 2 - (intOf iv).toNat)
      case atStart => exact ⟨1, _, by decide, by decide, rfl, rfl, Lib.hid (by rw [HV.out, HH.out]; rfl), VB.one (by omega), hs⟩
      case round =>
        clear hs
        obtain ⟨j, r, h1, h2, rfl, rfl, HR, hvb, hs⟩ := hrel
        by_cases hlt : j < 2
        · obtain ⟨x, hx⟩ : ∃ x, (a :: t)[j]? = some x := ⟨_, List.getElem?_eq_getElem (by rw [List.length_cons, ← HLen.out]; exact hlt)⟩
          have CX := Lib.hid (HL.out.at j x hx)
          obtain ⟨x0, x1⟩ := HB.out x (List.mem_of_getElem? hx)
          have hr := hvb.bd h1 (by omega)
          have hvb2 := hvb.step h1 (by omega) x0 x1
          have HR2 : Hid (v = val (r * 64 + x - 128) (t.drop (j + 1 - 1))) := Lib.hid (by
            obtain ⟨i, rfl⟩ : ∃ i, j = i + 1 := ⟨j - 1, by omega⟩
            have hx2 : t[i]? = some x := by simpa using hx
            obtain ⟨hil, hie⟩ := List.getElem?_eq_some_iff.1 hx2
            rw [HR.out, show i + 1 - 1 = i from rfl, List.drop_eq_getElem_cons hil, hie, val_cons, show i + 1 + 1 - 1 = i + 1 from rfl, show r * 64 + (x - 128) = r * 64 + x - 128 from by omega])
          clear hx hvb
          go_wp2_with (first
    | (apply ldc; exact rfl; exact rfl; exact rfl; (first | exact C0.out _ hs | exact CX.out _ hs); kernel_rfl)
    | (refine wrap hs ?_; clear hs; intro w hs)
    | (refine wrapn hs ?_; clear hs; intro w hs)
    | (refine wrapd hs ?_; clear hs; intro w hs))
          go_roundw
          case rel => exact ⟨j + 1, _, by omega, by omega, rfl, by go_num, HR2, hvb2, hs⟩
          case measure => simp [intOf]; omega
        · have HE : Hid (v = r) := Lib.hid (by rw [HR.out, List.drop_of_length_le (by have := HLen.out; omega), val_nil])
          go_wp2_with (first
    | (refine wrap hs ?_; clear hs; intro w hs)
    | (refine wrapn hs ?_; clear hs; intro w hs)
    | (refine wrapd hs ?_; clear hs; intro w hs))
          go_ret
          exact ⟨by rw [HE.out]; try rfl, hs⟩
  · have HH := Lib.hid (head3 hsz)
    clear hsz
    as_aux_lemma =>
      go_enter Try.func25, Try.ntmps25
      go_wp2_with (first
    | (apply ldc; exact rfl; exact rfl; exact rfl; (first | exact C0.out _ hs | exact CX.out _ hs); kernel_rfl)
    | (refine wrap hs ?_; clear hs; intro w hs)
    | (refine wrapn hs ?_; clear hs; intro w hs)
    | (refine wrapd hs ?_; clear hs; intro w hs))
      go_loopw [3, 4] (fun rv iv wr => ∃ (j : Nat) (r : Int), 1 ≤ j ∧ j ≤ 3 ∧ rv = .int .i32 r ∧ iv = .int .i64 j ∧ Hid (v = val r (t.drop (j - 1))) ∧ VB j r ∧ sat W H wr) (fun _ iv _ => 3 - (intOf iv).toNat)
      case atStart => exact ⟨1, _, by decide, by decide, rfl, rfl, Lib.hid (by rw [HV.out, HH.out]; rfl), VB.one (by omega), hs⟩
      case round =>
        clear hs
        obtain ⟨j, r, h1, h2, rfl, rfl, HR, hvb, hs⟩ := hrel
        by_cases hlt : j < 3
        · obtain ⟨x, hx⟩ : ∃ x, (a :: t)[j]? = some x := ⟨_, List.getElem?_eq_getElem (by rw [List.length_cons, ← HLen.out]; exact hlt)⟩
          have CX := Lib.hid (HL.out.at j x hx)
          obtain ⟨x0, x1⟩ := HB.out x (List.mem_of_getElem? hx)
          have hr := hvb.bd h1 (by omega)
          have hvb2 := hvb.step h1 (by omega) x0 x1
          have HR2 : Hid (v = val (r * 64 + x - 128) (t.drop (j + 1 - 1))) := Lib.hid (by
            obtain ⟨i, rfl⟩ : ∃ i, j = i + 1 := ⟨j - 1, by omega⟩
            have hx2 : t[i]? = some x := by simpa using hx
            obtain ⟨hil, hie⟩ := List.getElem?_eq_some_iff.1 hx2
            rw [HR.out, show i + 1 - 1 = i from rfl, List.drop_eq_getElem_cons hil, hie, val_cons, show i + 1 + 1 - 1 = i + 1 from rfl, show r * 64 + (x - 128) = r * 64 + x - 128 from by omega])
          clear hx hvb
          go_wp2_with (first
    | (apply ldc; exact rfl; exact rfl; exact rfl; (first | exact C0.out _ hs | exact CX.out _ hs); kernel_rfl)
    | (refine wrap hs ?_; clear hs; intro w hs)
    | (refine wrapn hs ?_; clear hs; intro w hs)
    | (refine wrapd hs ?_; clear hs; intro w hs))
          go_roundw
          case rel => exact ⟨j + 1, _, by omega, by omega, rfl, by go_num, HR2, hvb2, hs⟩
          case measure => simp [intOf]; omega
        · have HE : Hid (v = r) := Lib.hid (by rw [HR.out, List.drop_of_length_le (by have := HLen.out; omega), val_nil])
          go_wp2_with (first
    | (refine wrap hs ?_; clear hs; intro w hs)
    | (refine wrapn hs ?_; clear hs; intro w hs)
    | (refine wrapd hs ?_; clear hs; intro w hs))
          go_ret
          exact ⟨by rw [HE.out]; try rfl, hs⟩
  · have HH := Lib.hid (head4 hsz)
    clear hsz
    as_aux_lemma =>
      go_enter Try.func25, Try.ntmps25
      go_wp2_with (first
    | (apply ldc; exact rfl; exact rfl; exact rfl; (first | exact C0.out _ hs | exact CX.out _ hs); kernel_rfl)
    | (refine wrap hs ?_; clear hs; intro w hs)
    | (refine wrapn hs ?_; clear hs; intro w hs)
    | (refine wrapd hs ?_; clear hs; intro w hs))
      go_loopw [3, 4] (fun rv iv wr => ∃ (j : Nat) (r : Int), 1 ≤ j ∧ j ≤ 4 ∧ rv = .int .i32 r ∧ iv = .int .i64 j ∧ Hid (v = val r (t.drop (j - 1))) ∧ VB j r ∧ sat W H wr) (fun _ iv _ => 4 - (intOf iv).toNat)
      case atStart => exact ⟨1, _, by decide, by decide, rfl, rfl, Lib.hid (by rw [HV.out, HH.out]; rfl), VB.one (by omega), hs⟩
      case round =>
        clear hs
        obtain ⟨j, r, h1, h2, rfl, rfl, HR, hvb, hs⟩ := hrel
        by_cases hlt : j < 4
        · obtain ⟨x, hx⟩ : ∃ x, (a :: t)[j]? = some x := ⟨_, List.getElem?_eq_getElem (by rw [List.length_cons, ← HLen.out]; exact hlt)⟩
          have CX := Lib.hid (HL.out.at j x hx)
          obtain ⟨x0, x1⟩ := HB.out x (List.mem_of_getElem? hx)
          have hr := hvb.bd h1 (by omega)
          have hvb2 := hvb.step h1 (by omega) x0 x1
          have HR2 : Hid (v = val (r * 64 + x - 128) (t.drop (j + 1 - 1))) := Lib.hid (by
            obtain ⟨i, rfl⟩ : ∃ i, j = i + 1 := ⟨j - 1, by omega⟩
            have hx2 : t[i]? = some x := by simpa using hx
            obtain ⟨hil, hie⟩ := List.getElem?_eq_some_iff.1 hx2
            rw [HR.out, show i + 1 - 1 = i from rfl, List.drop_eq_getElem_cons hil, hie, val_cons, show i + 1 + 1 - 1 = i + 1 from rfl, show r * 64 + (x - 128) = r * 64 + x - 128 from by omega])
          clear hx hvb
          go_wp2_with (first
    | (apply ldc; exact rfl; exact rfl; exact rfl; (first | exact C0.out _ hs | exact CX.out _ hs); kernel_rfl)
    | (refine wrap hs ?_; clear hs; intro w hs)
    | (refine wrapn hs ?_; clear hs; intro w hs)
    | (refine wrapd hs ?_; clear hs; intro w hs))
          go_roundw
          case rel => exact ⟨j + 1, _, by omega, by omega, rfl, by go_num, HR2, hvb2, hs⟩
          case measure => simp [intOf]; omega
        · have HE : Hid (v = r) := Lib.hid (by rw [HR.out, List.drop_of_length_le (by have := HLen.out; omega), val_nil])
          go_wp2_with (first
    | (refine wrap hs ?_; clear hs; intro w hs)
    | (refine wrapn hs ?_; clear hs; intro w hs)
    | (refine wrapd hs ?_; clear hs; intro w hs))
          go_ret
          exact ⟨by rw [HE.out]; try rfl, hs⟩

/-! ## Say -/
theorem sayF_any (f : Nat) (l : List Int) (h : l.length ≤ f) : sayF f l = say l := by
  obtain ⟨h1, h2⟩ := say_run f l h
  obtain ⟨h3, h4⟩ := say_run l.length l (Nat.le_refl _)
  unfold say
  exact Prod.ext (h1.symm.trans h3) (by rw [h2] at h4; exact Int.ofNat.inj h4)
theorem say_nil : say [] = ([], 0) := rfl
theorem say_cons (a : Int) (t : List Int) : say (a :: t) = if begins (a :: t) = 0 then put bad (say t)
    else if begins (a :: t) = size a then put (value ((a :: t).take (begins (a :: t)))) (say ((a :: t).drop (begins (a :: t))))
    else if begins (a :: t) = (a :: t).length then ([], begins (a :: t)) else put bad (say ((a :: t).drop (begins (a :: t)))) := by
  show sayF (t.length + 1) (a :: t) = _
  conv => lhs; unfold sayF
  by_cases h0 : begins (a :: t) = 0
  · rw [if_pos h0, if_pos h0]; rfl
  · have hd : ((a :: t).drop (begins (a :: t))).length ≤ t.length := by rw [List.length_drop, List.length_cons]; omega
    rw [if_neg h0, if_neg h0, sayF_any _ _ hd]
theorem begins_le (a : Int) (t : List Int) : begins (a :: t) ≤ size a ∧ begins (a :: t) ≤ t.length + 1 := by
  rw [begins_cons]
  have := more_le a t 1 (size a - 1)
  split <;> omega
end Go.Proofs.Ytaajgkccannjlaa
