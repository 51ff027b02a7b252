import Derived.Test.YtdpflhbipolcaaaE8
namespace Go.Proofs.Ytdpflhbipolcaaa
open Go.RowKit Go.Mem Go.Typed
variable {W w : World} {H : List HProp}
def last64 {α : Type} (l : List α) : List α := l.drop (l.length - 64)
theorem last64_snoc (l : List One) (x : One) : push (last64 l) x = last64 (l ++ [x]) := by
  unfold push last64
  by_cases h : l.length < 64
  · have e : l.length - 64 = 0 := by omega
    have e2 : (l ++ [x]).length - 64 = 0 := by simp; omega
    rw [e, e2]
    simp only [List.drop_zero]
    rw [if_neg (by omega)]
  · rw [if_pos (by simp; omega), List.drop_drop]
    rw [show (l ++ [x]).length - 64 = l.length - 64 + 1 by simp; omega]
    rw [List.drop_append_of_le_length (by omega)]
abbrev oneAt (now : Int) (r : Int) : One := ⟨r, now + 1000⟩
theorem sel_all (now : Int) (l : List Int) : sel (max now now) (last64 (l.map (oneAt now))) = last64 l := by
  unfold sel last64
  rw [List.length_map, ← List.map_drop, List.filter_map, List.map_map]
  have e : List.filter ((fun x : One => decide (max now now < x.to)) ∘ oneAt now) (l.drop (l.length - 64)) = l.drop (l.length - 64) := by
    rw [List.filter_eq_self]
    intro r _
    simp only [Function.comp, decide_eq_true_eq]
    omega
  rw [e]
  simp [Function.comp_def]
theorem last64_get (l : List Int) (i : Nat) : (last64 l)[i]? = l[l.length - min l.length 64 + i]? := by
  unfold last64
  rw [List.getElem?_drop]
  congr 1
  omega
theorem last64_len (l : List Int) : (last64 l).length = min l.length 64 := by unfold last64; simp; omega
theorem take_snoc {α : Type} {l : List α} {j : Nat} {x : α} (h : l[j]? = some x) : l.take j ++ [x] = l.take (j + 1) := by rw [List.take_add_one, h]; rfl
theorem TY.drewN {b : Nat} {q : List One} {life now : Int} (h : TY W b q life now H w) (k : Nat) : TY W b q life now H (w.drewN k) := by
  obtain ⟨g, f, n, h1, h2, h3, hs⟩ := h
  exact ⟨g, f, n, h1, h2, h3, hs.drewN k⟩
attribute [local irreducible] World.setCell World.setCells World.alloc World.drew World.drewN Calls sat cel own blk old wpQuiet wpList tyL ringC TY
variable {g : Nat → One} {f n : Nat} {life now : Int} {b z : Nat}
theorem last_guard (a : Option Addr) (n c : Nat) (t : Int) (h : 300 < n ∨ t < 0 ∨ 549755813888 < t) (hc : n ≤ maxLen) (hs : sat W H w) : Calls Try.prog 4 #[.slice a n c, .int .i64 t] w fun e w' => e = .returned (.bool true) ∧ sat W H w' := by
  unfold maxLen at hc
  by_cases h1 : 300 < n
  · clear h
    go_enter Try.func4, Try.ntmps4
    go_wp2_with (go_at_call 6; refine (known6 hs).mono ?_; clear hs; rintro e w ⟨rfl, hs⟩)
    go_ret
    exact ⟨rfl, hs⟩
  · by_cases h2 : t < 0
    · clear h
      go_enter Try.func4, Try.ntmps4
      go_wp2_with (go_at_call 6; refine (known6 hs).mono ?_; clear hs; rintro e w ⟨rfl, hs⟩)
      go_ret
      exact ⟨rfl, hs⟩
    · have h3 : 549755813888 < t := by omega
      clear h
      go_enter Try.func4, Try.ntmps4
      go_wp2_with (go_at_call 6; refine (known6 hs).mono ?_; clear hs; rintro e w ⟨rfl, hs⟩)
      go_ret
      exact ⟨rfl, hs⟩
set_option maxHeartbeats 1000000 in
theorem last_walk (l : List Int) (w0 : World) (a : Option Addr) (n c : Nat) (t : Int) (hl : SR 1 W (old w0 :: H) a n c (l.map fun x => [.int .i32 x])) (hg : n ≤ 300) (h0 : 0 ≤ t) (h1 : t ≤ 549755813888) (hs : sat W (old w0 :: H) w) :
    Calls Try.prog 4 #[.slice a n c, .int .i64 t] w fun e w' => e = .returned (.bool true) ∧ sat W (old w0 :: H) w' := by
  have HL := Lib.hid hl
  have HN := Lib.hid (show n = l.length by have := hl.1; rwa [List.length_map] at this)
  clear hl
  go_enter Try.func4, Try.ntmps4
  go_wp2_with (go_at_call 7; refine (new7 1000 (by decide) (by decide) hs).mono ?_; clear hs; rintro e w ⟨b, rfl, hs⟩)
  go_loopw [8, 36] (fun _ i wr => ∃ (j : Nat) (ln : Int), j ≤ n ∧ i = .int .i64 (j : Int) ∧ 0 ≤ ln ∧ ln ≤ t ∧ TY W b (last64 ((l.take j).map (oneAt t))) 1000 ln (old w0 :: H) wr) (fun _ i _ => ((n : Int) - intOf i).toNat)
  case atStart => exact ⟨0, 0, Nat.zero_le _, rfl, by omega, h0, hs⟩
  case round =>
    clear hs
    obtain ⟨j, ln, hj, rfl, hl0, hl1, hs⟩ := hrel
    by_cases hjn : j < n
    · obtain ⟨x, hx, b1, o1, rfl, hc⟩ := HL.out.getb hs.sat hjn
      have hc := hc _ hs.sat
      have HX := Lib.hid (take_snoc hx)
      have HT := Lib.hid (show tick ln t = t by unfold tick; omega)
      have HP := Lib.hid (show push (last64 ((l.take j).map (oneAt t))) ⟨x, t + 1000⟩ = last64 ((l.take (j + 1)).map (oneAt t)) by rw [← HX.out, List.map_append, last64_snoc]; rfl)
      clear hx
      go_wp2_with (go_at_call 9; refine (type_t x t (by decide) (by decide) (by omega) (by omega) HT.out HP.out hs).mono ?_; clear hs hc; rintro e w ⟨rfl, hs⟩)
      go_roundw
      case rel => exact ⟨j + 1, t, by omega, by go_num, h0, by omega, hs⟩
      case measure => simp [intOf]; omega
    · have hjn : j = n := by omega
      subst hjn
      have HS := Lib.hid (show sel (max t ln) (last64 ((l.take j).map (oneAt t))) = last64 l by
        rw [List.take_of_length_le (by rw [HN.out]; exact Nat.le_refl _), show max t ln = max t t by omega]; exact sel_all t l)
      have hlen : (last64 l).length = min j 64 := by rw [HN.out]; exact last64_len l
      obtain ⟨m, hm⟩ : ∃ m, m = min j 64 := ⟨_, rfl⟩
      rw [← hm] at hlen
      have hmj : m ≤ j := by omega
      have HMM := Lib.hid hm
      have HLL := Lib.hid hlen
      clear hm hlen
      go_upto_region 12 with (go_at_call 10; refine (waits_t t (by decide) HS.out hs).mono ?_; clear hs; rintro e w ⟨a5, c5, rfl, hs⟩; rw [HLL.out] at hs ⊢)
      go_cut [10] from 48 to 50 (fun s10 wx => s10 = .int .i64 (m : Int) ∧ TY W b (last64 ((l.take j).map (oneAt t))) 1000 ln (own 21 1 (.slice a5 m c5) m (runesV (last64 l)) :: old w0 :: H) wx)
      case first =>
        by_cases h64 : (64 : Int) < j
        · skip
          go_wp2
          go_meet
          case rel => exact ⟨by have := HMM.out; congr 1; omega, hs⟩
        · skip
          go_wp2
          go_meet
          case rel => exact ⟨by have := HMM.out; congr 1; omega, hs⟩
      case rest =>
        clear hs
        obtain ⟨rfl, hs⟩ := hcut
        go_wp2
        go_loopw [11, 57] (fun _ i wr => ∃ k : Nat, k ≤ m ∧ i = .int .i64 (k : Int) ∧ TY W b (last64 ((l.take j).map (oneAt t))) 1000 ln (own 21 1 (.slice a5 m c5) m (runesV (last64 l)) :: old w0 :: H) wr) (fun _ i _ => ((m : Int) - intOf i).toNat)
        case atStart => exact ⟨0, Nat.zero_le _, rfl, hs⟩
        case round =>
          clear hs
          obtain ⟨k, hk, rfl, hs⟩ := hrel
          by_cases hkm : k < m
          · obtain ⟨g5, c6, e5⟩ := hs.sat.own_some (by omega)
            cases e5
            obtain ⟨x, hx, b1, o1, rfl, hc⟩ := HL.out.getb hs.sat.drop (show j - m + k < j by omega)
            have hc2 := hc _ hs.sat.drop
            have hc1 := hs.sat.own_cell (i := k) (u := .int .i32 x) (by
              have h1 := last64_get l k
              rw [← HN.out, ← HMM.out, hx] at h1
              simp [runesV, h1])
            have e1 : ((j : Int) - (m : Int) + (k : Int)) = ((j - m + k : Nat) : Int) := by omega
            have h2 : ((j - m + k : Nat) : Int) < (j : Int) := by omega
            have h3 : (0 : Int) ≤ ((j - m + k : Nat) : Int) := by omega
            clear hx hc
            go_wp2
            go_quiet (fail)
            go_wp2
            go_roundw
            case rel => exact ⟨k + 1, by omega, by go_num, hs.drewN _⟩
            case measure => simp [intOf]; omega
          · have hkm : k = m := by omega
            have HC := Lib.hid (show sel (max t ln) ([] : List One) = [] from rfl)
            subst hkm
            go_wp2_with (first | (go_at_call 11; refine (clear11 (by decide) hs).mono ?_; clear hs; rintro e w ⟨rfl, hs⟩) | (go_at_call 10; refine (waits_t t (by decide) HC.out hs).mono ?_; clear hs; rintro e w ⟨a6, c6, rfl, hs⟩) | (go_at_call 6; refine (known6 hs.sat).mono ?_; clear hs; rintro e w ⟨rfl, hs⟩))
            go_ret
            exact ⟨rfl, by (refine sat_from ?_ hs; repeat (first | exact Sub.refl _ | exact Sub.nil _ | refine Sub.c0 ?_ | refine Sub.c1 ?_ | refine Sub.c2 ?_ | refine Sub.c3 ?_ | refine Sub.c4 ?_ | refine Sub.c5 ?_ | refine Sub.c6 ?_ | refine Sub.c7 ?_ | refine Sub.c8 ?_ | refine Sub.c9 ?_ | refine Sub.skip ?_))⟩
end Go.Proofs.Ytdpflhbipolcaaa
