import Derived.Test.YtaajgkccannjlaaT3
namespace Go.Proofs.Ytaajgkccannjlaa
open Go.RowKit Go.Mem Go.Utf
variable {W w : World} {H : List HProp}
attribute [local irreducible] World.setCell World.alloc World.drew World.drewN Calls sat cel own blk old wpQuiet first size begins more SK
theorem begins_cons (a : Int) (t : List Int) : begins (a :: t) = if size a = 0 then 0 else more a 1 (size a - 1) t + 1 := by conv => lhs; unfold begins
theorem more_zero (a : Int) (k : Nat) (t : List Int) : more a k 0 t = 0 := by unfold more; rfl
theorem more_nil (a : Int) (k n : Nat) : more a k n [] = 0 := by unfold more; cases n <;> rfl
theorem more_cons (a : Int) (k n : Nat) (x : Int) (t : List Int) : more a k (n + 1) (x :: t) = if okAt a k x then more a (k + 1) n t + 1 else 0 := by conv => lhs; unfold more
/-- What is known of the count. -/
def BI (a : Int) (t : List Int) (k : Nat) : Prop := k = 0 ∨ (1 ≤ k ∧ k ≤ size a ∧ begins (a :: t) = k + more a k (size a - k) (t.drop (k - 1)))
theorem BI.done {a : Int} {t : List Int} {k : Nat} (h : BI a t k) (hk : size a ≤ k ∨ t.length + 1 ≤ k) : begins (a :: t) = k := by
  rcases h with rfl | ⟨h1, h2, h3⟩
  · rw [begins_cons, if_pos (by omega)]
  · rw [h3]
    rcases hk with hk | hk
    · rw [show size a - k = 0 from by omega, more_zero]; rfl
    · rw [List.drop_of_length_le (by omega), more_nil]; rfl
theorem BI.one {a : Int} {t : List Int} (h : 0 < size a) : BI a t 1 := .inr ⟨Nat.le_refl _, h, by rw [begins_cons, if_neg (by omega)]; simp; omega⟩
theorem BI.step {a x : Int} {t : List Int} {k : Nat} (h : BI a t k) (hk : 1 ≤ k) (hs : k < size a) (hx : t[k - 1]? = some x) : (okAt a k x → BI a t (k + 1)) ∧ (¬ okAt a k x → begins (a :: t) = k) := by
  rcases h with rfl | ⟨h1, h2, h3⟩
  · omega
  obtain ⟨hl, hg⟩ := List.getElem?_eq_some_iff.1 hx
  have hd : t.drop (k - 1) = x :: t.drop k := by rw [List.drop_eq_getElem_cons hl, hg, show k - 1 + 1 = k from by omega]
  rw [hd, show size a - k = (size a - k - 1) + 1 from by omega, more_cons] at h3
  refine ⟨fun ho => .inr ⟨by omega, hs, ?_⟩, fun ho => ?_⟩
  · rw [if_pos ho] at h3
    rw [h3, show k + 1 - 1 = k from by omega, show size a - (k + 1) = size a - k - 1 from by omega]; omega
  · rw [if_neg ho] at h3; exact h3
attribute [local irreducible] BI
set_option maxHeartbeats 4000000 in
theorem begins23 (ad : Option Addr) (n cp : Nat) (l : List Int) (hl : SK .u8 W H ad n cp l) (p : Nat) (hn : n ≤ 100000) (hp : p < n) (hs : sat W H w) :
    Calls Try.prog 23 #[.slice ad n cp, .int .i64 p] w fun e w' => e = .returned (.int .i64 (begins (l.drop p) : Nat)) ∧ sat W H w' := by
  have HE := Lib.hid (show n = l.length by unfold SK at hl; exact hl.1)
  obtain ⟨a, t, ht⟩ : ∃ a t, l.drop p = a :: t := ⟨_, _, List.drop_eq_getElem_cons (by rw [← HE.out]; exact hp)⟩
  have HT := Lib.hid ht
  have hga : l[p]? = some a := by have := congrArg List.head? ht; simpa using this
  obtain ⟨b, off, rfl⟩ := hl.ptr hs (by omega)
  have C0 := Lib.hid (hl.at p a hga)
  have HL := Lib.hid hl
  have hlen : t.length + 1 = n - p := by have := congrArg List.length ht; rw [List.length_drop, List.length_cons] at this; rw [HE.out]; omega
  have HLen := Lib.hid hlen
  rw [ht]
  clear hl ht hga hlen
  obtain ⟨m, hm⟩ : ∃ m, size a = m := ⟨_, rfl⟩
  have hm4 : m ≤ 4 := by rw [← hm]; exact size_le a
  have HS := Lib.hid hm
  clear hm
  go_enter Try.func23, Try.ntmps23
  go_wp2_with (first
    | (apply ldc; exact rfl; exact rfl; exact rfl; (first | exact C0.out _ hs | exact CX.out _ hs); kernel_rfl)
    | (go_at_call 24; refine (size_t _ _ HS.out _).mono ?_; rintro e w' ⟨rfl, rfl⟩)
    | (refine wrap hs ?_; clear hs; intro w hs)
    | (refine wrapn hs ?_; clear hs; intro w hs)
    | (refine wrapd hs ?_; clear hs; intro w hs))
  go_loopw [6, 7] (fun kv _ wr => ∃ k : Nat, k ≤ m ∧ p + k ≤ n ∧ kv = .int .i64 k ∧ Hid (BI a t k) ∧ sat W H wr) (fun kv _ _ => m - (intOf kv).toNat)
  case atStart => exact ⟨0, Nat.zero_le _, by omega, rfl, Lib.hid (by unfold BI; exact .inl rfl), hs⟩
  case round =>
    clear hs
    obtain ⟨k, hk, hpk, rfl, HB, hs⟩ := hrel
    by_cases h1 : k < m
    · by_cases h2 : p + k < n
      · obtain ⟨x, hx⟩ : ∃ x, l[p + k]? = some x := ⟨_, List.getElem?_eq_getElem (by rw [← HE.out]; exact h2)⟩
        have CX := Lib.hid (HL.out.at (p + k) x hx)
        by_cases k0 : k = 0
        · subst k0
          have HB1 := Lib.hid (BI.one (t := t) (a := a) (by rw [HS.out]; omega))
          clear hx
          as_aux_lemma =>
            go_wp2_with (first
    | (apply ldc; exact rfl; exact rfl; exact rfl; (first | exact C0.out _ hs | exact CX.out _ hs); kernel_rfl)
    | (refine wrap hs ?_; clear hs; intro w hs)
    | (refine wrapn hs ?_; clear hs; intro w hs)
    | (refine wrapd hs ?_; clear hs; intro w hs))
            go_roundw
            case rel => exact ⟨1, by omega, by omega, by go_num, HB1, hs⟩
            case measure => simp [intOf]; omega
        · have hxt : t[k - 1]? = some x := by
            have e : (l.drop p)[k]? = some x := by rw [List.getElem?_drop]; exact hx
            rw [HT.out] at e
            obtain ⟨j, rfl⟩ : ∃ j, k = j + 1 := ⟨k - 1, by omega⟩
            simpa using e
          obtain ⟨s1, s2⟩ := BI.step HB.out (by omega) (by rw [HS.out]; omega) hxt
          clear hx hxt
          by_cases k1 : k = 1
          · subst k1
            by_cases ho : okAt a 1 x
            · have HD : Hid (decide (okAt a 1 x) = true) := Lib.hid (decide_eq_true ho)
              have HB1 := Lib.hid (s1 ho)
              clear s1 s2 ho
              as_aux_lemma =>
                go_wp2_with (first
    | (apply ldc; exact rfl; exact rfl; exact rfl; (first | exact C0.out _ hs | exact CX.out _ hs); kernel_rfl)
    | (go_at_call 27; refine (second_t _ _ HD.out _).mono ?_; rintro e w' ⟨rfl, rfl⟩)
    | (refine wrap hs ?_; clear hs; intro w hs)
    | (refine wrapn hs ?_; clear hs; intro w hs)
    | (refine wrapd hs ?_; clear hs; intro w hs))
                go_roundw
                case rel => exact ⟨2, by omega, by omega, by go_num, HB1, hs⟩
                case measure => simp [intOf]; omega
            · have HD : Hid (decide (okAt a 1 x) = false) := Lib.hid (decide_eq_false ho)
              have HR := Lib.hid (s2 ho)
              clear s1 s2 ho
              as_aux_lemma =>
                go_wp2_with (first
    | (apply ldc; exact rfl; exact rfl; exact rfl; (first | exact C0.out _ hs | exact CX.out _ hs); kernel_rfl)
    | (go_at_call 27; refine (second_t _ _ HD.out _).mono ?_; rintro e w' ⟨rfl, rfl⟩)
    | (refine wrap hs ?_; clear hs; intro w hs)
    | (refine wrapn hs ?_; clear hs; intro w hs)
    | (refine wrapd hs ?_; clear hs; intro w hs))
                go_ret
                exact ⟨by rw [HR.out]; try rfl, hs⟩
          · have b1 := beq_no (show (k : Int) ≠ 1 by omega)
            have b2 : decide ((1 : Int) < (k : Int)) = true := decide_eq_true (by omega)
            rw [ok2 a k x k1] at s1 s2
            have hc : (128 ≤ x ∧ x ≤ 191) ∨ x < 128 ∨ (128 ≤ x ∧ 191 < x) := by omega
            rcases hc with hc | hc | hc
            · have HB1 := Lib.hid (s1 hc)
              have d1 : decide (x < 128) = false := decide_eq_false (by omega)
              have d2 : decide (191 < x) = false := decide_eq_false (by omega)
              clear s1 s2
              as_aux_lemma =>
                go_wp2_with (first
    | (apply ldc; exact rfl; exact rfl; exact rfl; (first | exact C0.out _ hs | exact CX.out _ hs); kernel_rfl)
    | (refine wrap hs ?_; clear hs; intro w hs)
    | (refine wrapn hs ?_; clear hs; intro w hs)
    | (refine wrapd hs ?_; clear hs; intro w hs))
                go_roundw
                case rel => exact ⟨k + 1, by omega, by omega, by go_num, HB1, hs⟩
                case measure => simp [intOf]; omega
            · have HR := Lib.hid (s2 (by omega))
              have d1 : decide (x < 128) = true := decide_eq_true (by omega)
              clear s1 s2
              as_aux_lemma =>
                go_wp2_with (first
    | (apply ldc; exact rfl; exact rfl; exact rfl; (first | exact C0.out _ hs | exact CX.out _ hs); kernel_rfl)
    | (refine wrap hs ?_; clear hs; intro w hs)
    | (refine wrapn hs ?_; clear hs; intro w hs)
    | (refine wrapd hs ?_; clear hs; intro w hs))
                go_ret
                exact ⟨by rw [HR.out]; try rfl, hs⟩
            · have HR := Lib.hid (s2 (by omega))
              have d1 : decide (x < 128) = false := decide_eq_false (by omega)
              have d2 : decide (191 < x) = true := decide_eq_true (by omega)
              clear s1 s2
              as_aux_lemma =>
                go_wp2_with (first
    | (apply ldc; exact rfl; exact rfl; exact rfl; (first | exact C0.out _ hs | exact CX.out _ hs); kernel_rfl)
    | (refine wrap hs ?_; clear hs; intro w hs)
    | (refine wrapn hs ?_; clear hs; intro w hs)
    | (refine wrapd hs ?_; clear hs; intro w hs))
                go_ret
                exact ⟨by rw [HR.out]; try rfl, hs⟩
      · have HR := Lib.hid (HB.out.done (.inr (by have := HLen.out; omega)))
        as_aux_lemma =>
          go_wp2_with (first
    | (refine wrap hs ?_; clear hs; intro w hs)
    | (refine wrapn hs ?_; clear hs; intro w hs)
    | (refine wrapd hs ?_; clear hs; intro w hs))
          go_ret
          exact ⟨by rw [HR.out]; try rfl, hs⟩
    · have HR := Lib.hid (HB.out.done (.inl (by rw [HS.out]; omega)))
      as_aux_lemma =>
        go_wp2_with (first
    | (refine wrap hs ?_; clear hs; intro w hs)
    | (refine wrapn hs ?_; clear hs; intro w hs)
    | (refine wrapd hs ?_; clear hs; intro w hs))
        go_ret
        exact ⟨by rw [HR.out]; try rfl, hs⟩
end Go.Proofs.Ytaajgkccannjlaa
