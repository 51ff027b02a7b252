/- Law 18: slices.IndexFunc, slices.DeleteFunc of at most one utterance. -/
import Derived.Test.YtinfgebdcjaabaaQ5
namespace Go.Proofs.Ytinfgebdcjaabaa
open Go.RowKit Go.Mem Go.Queue
variable {W w : World} {H : List HProp}
theorem _root_.Go.Mem.sat.own_take {T : TypeId} {size g n c i : Nat} {xs : List Value} (hi : i ≤ n) (hs : sat W (own T size (.slice (some ⟨g, 0, none⟩) n c) n xs :: H) w) : sat W (own T size (.slice (some ⟨g, 0, none⟩) i c) i (xs.take (i * size)) :: H) w := by
  obtain ⟨hxl, hcase⟩ := hs.own_cases
  rcases hcase with ⟨e0, _⟩ | ⟨g', cap, cur, e0, hnc, hcm, hcs, htake, hb⟩
  · cases e0
  · cases e0
    have h := hb.own_mk (n := i) (size := size) (Nat.le_trans hi hnc) hcm hcs
    rw [← htake, List.take_take, Nat.min_eq_left (Nat.mul_le_mul_right _ hi)]
    exact h
theorem utO_zero {a : Option Addr} {c : Nat} (hs : sat W (own 25 5 (.slice a 0 c) 0 [] :: H) w) : sat W (utO a c [] :: H) w := hs
attribute [local irreducible] World.setCell World.setCells World.alloc World.drew World.drewN Calls sat cel own blk old wpQuiet wpList qu uts gn World.rangeAt tru
theorem idx39_nil {f : Value} {a : Option Addr} {c : Nat} (hs : sat W H w) : Calls Try.prog 39 #[.slice a 0 c, f] w fun e w' => e = .returned (.int .i64 (-1)) ∧ sat W H w' := by
  go_enter Try.func39, Try.ntmps39
  go_wp2_with fail
  go_loopw [8] (fun i wr => i = .int .i64 0 ∧ sat W H wr) (fun i _ => 0)
  case atStart => exact ⟨rfl, hs⟩
  case round =>
    clear hs
    obtain ⟨rfl, hs⟩ := hrel
    go_wp2_with fail
    go_ret
    exact ⟨rfl, hs⟩
theorem idx39_one {g c : Nat} {x u : Ut} {bu : Nat} {v : Bool} (h : decide (x.pr < u.pr) = v) (hs : sat W (own 25 5 (.slice (some ⟨g, 0, none⟩) 1 c) 1 (uts [x]) :: cel bu 25 (utC u) :: H) w) :
    Calls Try.prog 39 #[.slice (some ⟨g, 0, none⟩) 1 c, .func (.func 27) #[] #[.pointer (some ⟨bu, 0, none⟩)]] w fun e w' => e = .returned (.int .i64 (if v then 0 else -1)) ∧ sat W (own 25 5 (.slice (some ⟨g, 0, none⟩) 1 c) 1 (uts [x]) :: cel bu 25 (utC u) :: H) w' := by
  have HX : Hid (([x] : List Ut)[0]? = some x) := Lib.hid rfl
  have HP := Lib.hid h
  clear h
  go_enter Try.func39, Try.ntmps39
  go_wp2_with fail
  go_loopw [8] (fun i wr => ((i = .int .i64 0 ∨ (i = .int .i64 1 ∧ Hid (v = false))) ∧ sat W (own 25 5 (.slice (some ⟨g, 0, none⟩) 1 c) 1 (uts [x]) :: cel bu 25 (utC u) :: H) wr)) (fun i _ => (1 - intOf i).toNat)
  case atStart => exact ⟨.inl rfl, hs⟩
  case round =>
    clear hs
    obtain ⟨rfl | ⟨rfl, HV⟩, hs⟩ := hrel
    · cases v with
      | true =>
        go_wp2_with (first | (first | (((with_reducible apply ldsc (cs := utC x)); exact rfl; exact rfl; exact rfl; exact uts_range hs.b0 HX.out; exact row25)) | (((with_reducible apply ldsc (cs := utC x)); exact rfl; exact rfl; exact rfl; exact uts_range hs.b1 HX.out; exact row25)) | (((with_reducible apply ldsc (cs := utC x)); exact rfl; exact rfl; exact rfl; exact uts_range hs.b2 HX.out; exact row25)) | (((with_reducible apply ldsc (cs := utC x)); exact rfl; exact rfl; exact rfl; exact uts_range hs.b3 HX.out; exact row25))) | (go_at_call 27; (first | refine (clo27 HP.out hs.b0).mono ?_ | refine (clo27 HP.out hs.b1).mono ?_ | refine (clo27 HP.out hs.b2).mono ?_ | refine (clo27 HP.out hs.b3).mono ?_ | refine (clo27 HP.out hs.b4).mono ?_ | refine (clo27 HP.out hs.b5).mono ?_ | refine (clo27 HP.out hs.b6).mono ?_ | refine (clo27 HP.out hs.b7).mono ?_); clear hs; rintro e w ⟨rfl, hs⟩) | ((with_reducible refine isl ?_); first | ((with_reducible refine wrap hs ?_); clear hs; intro w hs) | ((with_reducible refine wrapn hs ?_); clear hs; intro w hs) | ((with_reducible refine wrapd hs ?_); clear hs; intro w hs)))
        go_ret
        exact ⟨rfl, by (refine sb_from ?_ hs; repeat constructor)⟩
      | false =>
        go_wp2_with (first | (first | (((with_reducible apply ldsc (cs := utC x)); exact rfl; exact rfl; exact rfl; exact uts_range hs.b0 HX.out; exact row25)) | (((with_reducible apply ldsc (cs := utC x)); exact rfl; exact rfl; exact rfl; exact uts_range hs.b1 HX.out; exact row25)) | (((with_reducible apply ldsc (cs := utC x)); exact rfl; exact rfl; exact rfl; exact uts_range hs.b2 HX.out; exact row25)) | (((with_reducible apply ldsc (cs := utC x)); exact rfl; exact rfl; exact rfl; exact uts_range hs.b3 HX.out; exact row25))) | (go_at_call 27; (first | refine (clo27 HP.out hs.b0).mono ?_ | refine (clo27 HP.out hs.b1).mono ?_ | refine (clo27 HP.out hs.b2).mono ?_ | refine (clo27 HP.out hs.b3).mono ?_ | refine (clo27 HP.out hs.b4).mono ?_ | refine (clo27 HP.out hs.b5).mono ?_ | refine (clo27 HP.out hs.b6).mono ?_ | refine (clo27 HP.out hs.b7).mono ?_); clear hs; rintro e w ⟨rfl, hs⟩) | ((with_reducible refine isl ?_); first | ((with_reducible refine wrap hs ?_); clear hs; intro w hs) | ((with_reducible refine wrapn hs ?_); clear hs; intro w hs) | ((with_reducible refine wrapd hs ?_); clear hs; intro w hs)))
        go_roundw
        case rel => exact ⟨.inr ⟨by go_num, by (first | exact Lib.hid rfl | exact Lib.hid trivial)⟩, by (refine sb_from ?_ hs; repeat constructor)⟩
        case measure => simp [intOf]
    · obtain rfl : v = false := HV.out
      clear HV
      go_wp2_with fail
      go_ret
      exact ⟨rfl, hs⟩
theorem del29_no {a : Option Addr} {n c : Nat} {f : Value} {G : List HProp} (hi : ∀ w, sat W G w → Calls Try.prog 39 #[.slice a n c, f] w fun e w' => e = .returned (.int .i64 (-1)) ∧ sat W G w') (hs : sat W G w) :
    Calls Try.prog 29 #[.slice a n c, f] w fun e w' => e = .returned (.slice a n c) ∧ sat W G w' := by
  go_enter Try.func29, Try.ntmps29
  go_wp2_with (first | (go_at_call 39; refine (hi _ hs).mono ?_; clear hs; rintro e w ⟨rfl, hs⟩))
  go_ret
  exact ⟨rfl, hs⟩
theorem del29_yes {g c : Nat} {x u : Ut} {bu : Nat} (h : decide (x.pr < u.pr) = true) (hs : sat W (own 25 5 (.slice (some ⟨g, 0, none⟩) 1 c) 1 (uts [x]) :: cel bu 25 (utC u) :: H) w) :
    Calls Try.prog 29 #[.slice (some ⟨g, 0, none⟩) 1 c, .func (.func 27) #[] #[.pointer (some ⟨bu, 0, none⟩)]] w fun e w' => e = .returned (.slice (some ⟨g, 0, none⟩) 0 c) ∧ sat W (own 25 5 (.slice (some ⟨g, 0, none⟩) 0 c) 0 [] :: cel bu 25 (utC u) :: H) w' := by
  have hc := hs.own_len
  have hcm := hc.2
  unfold maxLen at hcm
  have hc1 : (1 : Int) ≤ (c : Int) := by omega
  have HI : Hid (∀ w, sat W (own 25 5 (.slice (some ⟨g, 0, none⟩) 1 c) 1 (uts [x]) :: cel bu 25 (utC u) :: H) w → Calls Try.prog 39 #[.slice (some ⟨g, 0, none⟩) 1 c, .func (.func 27) #[] #[.pointer (some ⟨bu, 0, none⟩)]] w fun e w' => e = .returned (.int .i64 0) ∧ sat W (own 25 5 (.slice (some ⟨g, 0, none⟩) 1 c) 1 (uts [x]) :: cel bu 25 (utC u) :: H) w') := Lib.hid fun w hs => idx39_one h hs
  clear h
  go_enter Try.func29, Try.ntmps29
  go_wp2_with (first | (go_at_call 39; refine (HI.out _ hs).mono ?_; clear hs; rintro e w ⟨rfl, hs⟩))
  go_loopw [5, 6] (fun v5 i wr => v5 = .int .i64 0 ∧ i = .int .i64 1 ∧ sat W (own 25 5 (.slice (some ⟨g, 0, none⟩) 1 c) 1 (uts [x]) :: cel bu 25 (utC u) :: H) wr) (fun _ i _ => 0)
  case atStart => exact ⟨by go_num, by go_num, hs⟩
  case round =>
    clear hs
    obtain ⟨rfl, rfl, hs⟩ := hrel
    replace hs := hs.own_take (Nat.zero_le 1)
    go_wp2_with (first | (skip; refine clrl (size := 5) hs rfl rfl rfl slty34 zero25 rfl z25_one (by omega) ?_; clear hs; intro w hs))
    go_ret
    exact ⟨rfl, by (refine sb_from ?_ hs; repeat constructor)⟩
theorem del29 {a : Option Addr} {c : Nat} {sp : List Ut} {u : Ut} {bu : Nat} (h1 : sp.length ≤ 1) (hs : sat W (utO a c sp :: cel bu 25 (utC u) :: H) w) :
    Calls Try.prog 29 #[.slice a sp.length c, .func (.func 27) #[] #[.pointer (some ⟨bu, 0, none⟩)]] w fun e w' => ∃ a' c', e = .returned (.slice a' (sp.filter (fun x => !decide (x.pr < u.pr))).length c') ∧ sat W (utO a' c' (sp.filter (fun x => !decide (x.pr < u.pr))) :: cel bu 25 (utC u) :: H) w' := by
  match sp, h1 with
  | [], _ =>
    exact (del29_no (fun _ h => idx39_nil h) hs).mono fun e w' ⟨he, hs⟩ => ⟨a, c, he, hs⟩
  | [x], _ =>
    obtain ⟨g, c', e⟩ := hs.own_some (Nat.zero_lt_one)
    have e : Value.slice a 1 c = .slice (some ⟨g, 0, none⟩) 1 c' := e
    cases e
    cases hv : decide (x.pr < u.pr) with
    | true =>
      have e1 : [x].filter (fun x => !decide (x.pr < u.pr)) = [] := by simp only [List.filter_cons, hv]; rfl
      rw [e1]
      exact (del29_yes hv hs).mono fun e w' ⟨he, hs⟩ => ⟨_, _, he, utO_zero hs⟩
    | false =>
      have e1 : [x].filter (fun x => !decide (x.pr < u.pr)) = [x] := by simp only [List.filter_cons, hv]; rfl
      rw [e1]
      exact (del29_no (fun _ h => idx39_one hv h) hs).mono fun e w' ⟨he, hs⟩ => ⟨_, _, he, hs⟩
end Go.Proofs.Ytinfgebdcjaabaa
