import Derived.Test.YtdbhgjkdblhhkaaP11
import Derived.Test.YtdbhgjkdblhhkaaP12
namespace Go.Proofs.Ytdbhgjkdblhhkaa
open Go.RowKit Go.Mem
variable {W w : World} {H : List HProp}
section
variable {cells : List Int} {Hc : List HProp} {a : Option Addr} {n c wd off b : Nat}
theorem info3 : (Try.prog.info? 3).map (fun i => (i.zero, i.size, i.bytes)) = some (some (.int .i64 0), 1, 8) := by kernel_rfl
theorem natsV_zero (n : Nat) : List.replicate n (Value.int .i64 0) = natsV (List.replicate n 0) := by simp
theorem natsV_set (l : List Nat) (k i : Nat) : (natsV l).set k (.int .i64 (i : Int)) = natsV (l.set k i) := by
  show (List.map _ l).set k _ = List.map _ (l.set k i)
  rw [List.map_set]
theorem natsV_some {l : List Nat} {k : Nat} (h : k < l.length) : (natsV l)[k]?.isSome = true := by simp [h]
attribute [local irreducible] World.setCell World.setCells World.alloc World.drew World.drewN Calls sat cel own blk old wpQuiet wpList
theorem may7 (x : Int) : ∀ w, Calls Try.prog 7 #[.int .i64 x] w fun e w' => e = .returned (.bool (decide (1 ≤ x ∧ x ≤ 80))) ∧ w' = w := fun w => by
  by_cases h1 : 1 ≤ x
  · by_cases h2 : x ≤ 80
    · go_enter Try.func7, Try.ntmps7
      go_wp2
      go_ret
      exact ⟨by simp [h1, h2], rfl⟩
    · have h3 : 80 < x := by omega
      go_enter Try.func7, Try.ntmps7
      go_wp2
      go_ret
      exact ⟨by simp; omega, rfl⟩
  · have h3 : x < 1 := by omega
    go_enter Try.func7, Try.ntmps7
    go_wp2
    go_ret
    exact ⟨by simp; omega, rfl⟩
theorem covers_guard (a : Option Addr) (n c : Nat) (x : Int) (h : 500 < n ∨ x < 1 ∨ 80 < x) (hc : n ≤ maxLen) (hs : sat W H w) : Calls Try.prog 3 #[.slice a n c, .int .i64 x] w fun e w' => e = .returned (.bool true) ∧ sat W H w' := by
  unfold maxLen at hc
  by_cases h1 : 500 < n
  · clear h
    go_enter Try.func3, Try.ntmps3
    go_wp2_with (go_at_call 8; refine (known8 hs).mono ?_; clear hs; rintro e w ⟨rfl, hs⟩)
    go_ret
    exact ⟨rfl, hs⟩
  · have hd : decide (1 ≤ x ∧ x ≤ 80) = false := by simp; omega
    clear h
    go_enter Try.func3, Try.ntmps3
    go_wp2_with (first | (go_at_call 8; refine (known8 hs).mono ?_; clear hs; rintro e w ⟨rfl, hs⟩) | (go_at_call 7; refine (may7 _ _).mono ?_; rintro e w ⟨rfl, rfl⟩; rw [hd]))
    go_ret
    exact ⟨rfl, hs⟩
set_option maxRecDepth 8000 in
set_option maxHeartbeats 4000000 in
theorem covers_walk (w0 : World) (hw : 0 < wd) (hw2 : wd ≤ 80) (hr : RdC [old w0] a n c cells) (hg : n ≤ 500) (hn : n = cells.length) (hs : sat W (old w0 :: H) w) :
    Calls Try.prog 3 #[.slice a n c, .int .i64 (wd : Nat)] w fun e w' => e = .returned (.bool true) ∧ sat W (old w0 :: H) w' := by
  have HR := Lib.hid hr
  have HN := Lib.hid hn
  have hl : cells.length ≤ 1000 := by omega
  have hd : decide (1 ≤ (wd : Int) ∧ (wd : Int) ≤ 80) = true := by simp; omega
  have hz := Pan.begs_zero (cells := cells) (hw := hw)
  have hps := Pan.begs_pos (cells := cells) (hw := hw)
  have hst : ∀ i x, (Pan.begs cells wd hw 0)[i]? = some x → (∃ y, (Pan.begs cells wd hw 0)[i + 1]? = some y ∧ x < y ∧ y ≤ x + wd ∧ y < n) ∨ ((Pan.begs cells wd hw 0)[i + 1]? = none ∧ n ≤ x + wd) := fun i x hx => by
    rcases Pan.begs_step (cells := cells) (hw := hw) cells.length 0 (by omega) i x hx with ⟨h1, h2⟩ | ⟨h1, h2⟩
    · have k1 := Pan.next_gt (cells := cells) (b := x) hw
      have k2 := Pan.next_le (cells := cells) (w := wd) (b := x)
      exact .inl ⟨_, h1, k1, k2, by omega⟩
    · exact .inr ⟨h1, by omega⟩
  have hle : ∀ i x, (Pan.begs cells wd hw 0)[i]? = some x → x ≤ n := fun i x hx => by
    rcases Pan.begs_mem cells.length 0 (by omega) x (List.mem_of_getElem? hx) with h | h <;> omega
  clear hr hn
  obtain ⟨B, hB⟩ : ∃ B, Pan.begs cells wd hw 0 = B := ⟨_, rfl⟩
  rw [hB] at hz hps hst hle
  have HB := Lib.hid hB
  have HZ := Lib.hid hz
  have HS := Lib.hid hst
  have HLE := Lib.hid hle
  obtain ⟨m, hm⟩ : ∃ m, B.length = m := ⟨_, rfl⟩
  have hmp : 0 < m := by omega
  have hm2 : m ≤ 1000000 := by rw [← hm, ← hB]; exact begs_le hl
  have hm0 : (0 : Int) < (m : Int) := by omega
  have hmb : ((m : Int) == 0) = false := beq_no (by omega)
  have HM := Lib.hid hm
  have HX0 := Lib.hid (natsV_get hz)
  clear hz hst hB hm hps hle
  go_enter Try.func3, Try.ntmps3
  go_upto_region 4 with (first | (go_at_call 7; refine (may7 _ _).mono ?_; rintro e w ⟨rfl, rfl⟩; rw [hd]) | (go_at_call 9; refine (begins_t (Hc := [old w0]) (wd := wd) rfl hw hw2 HR.out hl HB.out hs).mono ?_; clear hs; rintro e w ⟨a5, c5, rfl, hs⟩; rw [HM.out] at hs ⊢))
  replace hs : sat W (own 3 1 (.slice a5 m c5) m (natsV B) :: old w0 :: H) w := hs
  obtain ⟨g5, c6, e5⟩ := hs.own_some hmp
  cases e5
  go_upto_block 0 with (first | (apply mks hs; exact rfl; exact rfl; exact rfl; exact rfl; exact Try.underlying25; exact info3; exact rfl; omega; (unfold maxLen; omega); clear hs; intro g6 w hs; rw [natsV_zero] at hs) | ((with_reducible refine isl ?_); first | ((with_reducible apply ldo hs.b0); exact rfl; exact rfl; exact rfl; exact HX0.out; kernel_rfl) | ((with_reducible refine wrap hs ?_); clear hs; intro w hs) | ((with_reducible refine wrapn hs ?_); clear hs; intro w hs) | ((with_reducible refine wrapd hs ?_); clear hs; intro w hs)))
  go_cut [7, 8, 9, 10, 39] from 40 to 81 (fun _ _ _ _ _ wx => ∃ F, Hid (F.length = n ∧ Pan.Told B F n) ∧ sat W (own 3 1 (.slice (some ⟨g6, 0, none⟩) n n) n (natsV F) :: own 3 1 (.slice (some ⟨g5, 0, none⟩) m c5) m (natsV B) :: old w0 :: H) wx)
  case first =>
    go_wp2_with fail
    go_loopw [7, 8, 9, 10, 39] (fun _ _ _ _ i wr => ∃ (i' : Nat) (F : List Nat), i' ≤ m ∧ i = .int .i64 (i' : Int) ∧ Hid (F.length = n ∧ ∃ top, Pan.Told B F top ∧ (B[i']? = some top ∨ i' = m ∧ top = n)) ∧ sat W (own 3 1 (.slice (some ⟨g6, 0, none⟩) n n) n (natsV F) :: own 3 1 (.slice (some ⟨g5, 0, none⟩) m c5) m (natsV B) :: old w0 :: H) wr) (fun _ _ _ _ i _ => ((m : Int) - intOf i).toNat)
    case atStart => exact ⟨0, List.replicate n 0, Nat.zero_le _, rfl, Lib.hid ⟨by simp, 0, Pan.told_zero, .inl HZ.out⟩, hs⟩
    case round =>
      clear hs
      obtain ⟨i, F, hi, rfl, HF, hs⟩ := hrel
      by_cases him : i < m
      · obtain ⟨top, ht, hbo⟩ := HF.out.2
        replace hbo : B[i]? = some top := by
          rcases hbo with h | ⟨h, _⟩
          · exact h
          · omega
        have HX := Lib.hid (natsV_get hbo)
        have htn := HLE.out _ _ hbo
        have him2 : (i : Int) < (m : Int) := by omega
        have HBO := Lib.hid hbo
        have HT := Lib.hid ht
        have HFL := Lib.hid HF.out.1
        clear ht HF
        rcases HS.out i top hbo with ⟨y, hy, y1, y2, y3⟩ | ⟨hy, y2⟩
        · have HX2 := hy
          have hlt : i + 1 < m := by have := (List.getElem?_eq_some_iff.1 hy).1; have := HM.out; omega
          have hlt2 : (i : Int) + 1 < (m : Int) := by omega
          have HY := Lib.hid (natsV_get hy)
          have HYY := Lib.hid hy
          have z1 : ¬ (y : Int) ≤ (top : Int) := by omega
          have z2 : ¬ (top : Int) + (wd : Int) < (y : Int) := by omega
          clear hbo hy HX2
          go_wp2_with (first | ((with_reducible refine isl ?_); first | ((with_reducible apply ldo hs.b1); exact rfl; exact rfl; exact rfl; (first | exact HX.out | exact HY.out); kernel_rfl) | ((with_reducible refine wrap hs ?_); clear hs; intro w hs) | ((with_reducible refine wrapn hs ?_); clear hs; intro w hs) | ((with_reducible refine wrapd hs ?_); clear hs; intro w hs)))
          go_loopw [10] (fun k wr => ∃ (k' : Nat) (F : List Nat), (top ≤ k' ∧ k' ≤ y) ∧ k = .int .i64 (k' : Int) ∧ Hid (F.length = n ∧ Pan.Told B F k') ∧ sat W (own 3 1 (.slice (some ⟨g6, 0, none⟩) n n) n (natsV F) :: own 3 1 (.slice (some ⟨g5, 0, none⟩) m c5) m (natsV B) :: old w0 :: H) wr) (fun k _ => ((y : Int) - intOf k).toNat)
          case atStart => exact ⟨top, F, ⟨Nat.le_refl _, by omega⟩, rfl, Lib.hid ⟨HFL.out, HT.out⟩, hs⟩
          case round =>
            clear hs HT HFL
            obtain ⟨k, F, ⟨hk1, hk2⟩, rfl, HF, hs⟩ := hrel
            by_cases hke : k < y
            · have hkn : (k : Int) < (n : Int) := by omega
              have hke2 : (k : Int) < (y : Int) := by omega
              have HKS := Lib.hid (natsV_some (l := F) (k := k) (by have := HF.out.1; omega))
              have HF2 : Hid ((F.set k i).length = n ∧ Pan.Told B (F.set k i) (k + 1)) := Lib.hid ⟨by rw [List.length_set]; exact HF.out.1, Pan.told_set HF.out.2 (by have := HF.out.1; omega) HBO.out hk1 (fun z hz => by rw [HYY.out] at hz; cases hz; exact hke)⟩
              go_wp2_with (first | ((with_reducible refine isl ?_); first | ((with_reducible apply sto hs.b0); exact rfl; exact rfl; exact rfl; exact rfl; exact rfl; exact HKS.out; kernel_rfl; exact rfl; clear hs; intro w hs; rw [natsV_set] at hs) | ((with_reducible refine wrap hs ?_); clear hs; intro w hs) | ((with_reducible refine wrapn hs ?_); clear hs; intro w hs) | ((with_reducible refine wrapd hs ?_); clear hs; intro w hs)))
              go_roundw
              case rel => exact ⟨k + 1, F.set k i, ⟨by omega, by omega⟩, by go_num, HF2, hs⟩
              case measure => simp [intOf]; omega
            · obtain rfl : k = y := by omega
              go_wp2_with fail
              go_roundw
              case rel => exact ⟨i + 1, F, by omega, by go_num, Lib.hid ⟨HF.out.1, k, HF.out.2, .inl HYY.out⟩, hs⟩
              case measure => simp [intOf]; omega
        · have hlt : i + 1 = m := by have := List.getElem?_eq_none_iff.1 hy; have := HM.out; omega
          have hlt2 : ¬ (i : Int) + 1 < (m : Int) := by omega
          have z2 : ¬ (wd : Int) < (n : Int) - (top : Int) := by omega
          have HYY := Lib.hid hy
          have HL := Lib.hid hlt
          clear hbo hy hlt
          go_wp2_with (first | ((with_reducible refine isl ?_); first | ((with_reducible apply ldo hs.b1); exact rfl; exact rfl; exact rfl; (first | exact HX.out | exact HY.out); kernel_rfl) | ((with_reducible refine wrap hs ?_); clear hs; intro w hs) | ((with_reducible refine wrapn hs ?_); clear hs; intro w hs) | ((with_reducible refine wrapd hs ?_); clear hs; intro w hs)))
          go_loopw [10] (fun k wr => ∃ (k' : Nat) (F : List Nat), (top ≤ k' ∧ k' ≤ n) ∧ k = .int .i64 (k' : Int) ∧ Hid (F.length = n ∧ Pan.Told B F k') ∧ sat W (own 3 1 (.slice (some ⟨g6, 0, none⟩) n n) n (natsV F) :: own 3 1 (.slice (some ⟨g5, 0, none⟩) m c5) m (natsV B) :: old w0 :: H) wr) (fun k _ => ((n : Int) - intOf k).toNat)
          case atStart => exact ⟨top, F, ⟨Nat.le_refl _, by omega⟩, rfl, Lib.hid ⟨HFL.out, HT.out⟩, hs⟩
          case round =>
            clear hs HT HFL
            obtain ⟨k, F, ⟨hk1, hk2⟩, rfl, HF, hs⟩ := hrel
            by_cases hke : k < n
            · have hkn : (k : Int) < (n : Int) := by omega
              have hke2 : (k : Int) < (n : Int) := by omega
              have HKS := Lib.hid (natsV_some (l := F) (k := k) (by have := HF.out.1; omega))
              have HF2 : Hid ((F.set k i).length = n ∧ Pan.Told B (F.set k i) (k + 1)) := Lib.hid ⟨by rw [List.length_set]; exact HF.out.1, Pan.told_set HF.out.2 (by have := HF.out.1; omega) HBO.out hk1 (fun z hz => by rw [HYY.out] at hz; cases hz)⟩
              go_wp2_with (first | ((with_reducible refine isl ?_); first | ((with_reducible apply sto hs.b0); exact rfl; exact rfl; exact rfl; exact rfl; exact rfl; exact HKS.out; kernel_rfl; exact rfl; clear hs; intro w hs; rw [natsV_set] at hs) | ((with_reducible refine wrap hs ?_); clear hs; intro w hs) | ((with_reducible refine wrapn hs ?_); clear hs; intro w hs) | ((with_reducible refine wrapd hs ?_); clear hs; intro w hs)))
              go_roundw
              case rel => exact ⟨k + 1, F.set k i, ⟨by omega, by omega⟩, by go_num, HF2, hs⟩
              case measure => simp [intOf]; omega
            · obtain rfl : k = n := by omega
              go_wp2_with fail
              go_roundw
              case rel => exact ⟨i + 1, F, by omega, by go_num, Lib.hid ⟨HF.out.1, k, HF.out.2, .inr ⟨HL.out, rfl⟩⟩, hs⟩
              case measure => simp [intOf]; omega
      · have him : i = m := by omega
        subst him
        have HF2 : Hid (F.length = n ∧ Pan.Told B F n) := Lib.hid ⟨HF.out.1, by
          obtain ⟨top, ht, h⟩ := HF.out.2
          rcases h with h | ⟨_, rfl⟩
          · have := (List.getElem?_eq_some_iff.1 h).1
            have := HM.out
            omega
          · exact ht⟩
        go_wp2_with fail
        go_meet
        case rel => exact ⟨F, HF2, hs⟩
  case rest =>
    clear hs
    obtain ⟨F, HF, hs⟩ := hcut
    have HF0 := HF
    go_wp2
    go_loopw [11, 12] (fun i _ wr => ∃ i' : Nat, i' ≤ n + 1 ∧ i = .int .i64 (i' : Int) ∧ Hid (i' = 0 ∨ n < i' ∨ cells.getD (i' - 1) 0 = 0) ∧ sat W (own 3 1 (.slice (some ⟨g6, 0, none⟩) n n) n (natsV F) :: own 3 1 (.slice (some ⟨g5, 0, none⟩) m c5) m (natsV B) :: old w0 :: H) wr) (fun i _ _ => ((n : Int) + 1 - intOf i).toNat)
    case atStart => exact ⟨0, Nat.zero_le _, rfl, Lib.hid (.inl rfl), hs⟩
    case round =>
      clear hs
      obtain ⟨i, hi, rfl, HP, hs⟩ := hrel
      by_cases hin : i < n
      · obtain ⟨b1, o1, rfl, hc⟩ := HR.out.cell hs.b2.only hin
        have HP2 : Hid (i = 0 ∨ cells.getD (i - 1) 0 = 0) := Lib.hid (by
          rcases HP.out with h | h | h
          · exact .inl h
          · omega
          · exact .inr h)
        obtain ⟨x1, hx1⟩ : ∃ x1, cells.getD i 0 = x1 := ⟨_, rfl⟩
        rw [hx1] at hc
        have hin2 : (i : Int) < (n : Int) := by omega
        by_cases v1 : x1 = 0
        · have HNX := Lib.hid (show (i + 1 = 0 ∨ n < i + 1 ∨ cells.getD (i + 1 - 1) 0 = 0) from .inr (.inr (hx1.trans v1)))
          clear hx1
          subst v1
          go_wp2
          go_roundw
          case rel => exact ⟨i + 1, by omega, by go_num, HNX, hs⟩
          case measure => simp [intOf]; omega
        · have c1 : (x1 == 0) = false := beq_no v1
          have HI1 := Lib.hid (show cells.getD i 0 ≠ 0 by rw [hx1]; exact v1)
          clear hx1 v1
          go_wp2
          clear c1 hc
          go_loopw [12] (fun t wq => ∃ t' : Nat, (i ≤ t' ∧ t' ≤ n) ∧ t = .int .i64 (t' : Int) ∧ Hid (∀ k, i ≤ k → k < t' → cells.getD k 0 ≠ 0) ∧ sat W (own 3 1 (.slice (some ⟨g6, 0, none⟩) n n) n (natsV F) :: own 3 1 (.slice (some ⟨g5, 0, none⟩) m c5) m (natsV B) :: old w0 :: H) wq) (fun t _ => ((n : Int) - intOf t).toNat)
          case atStart => exact ⟨i, ⟨Nat.le_refl _, by omega⟩, rfl, Lib.hid (fun k h1 h2 => by omega), hs⟩
          case round =>
            clear hs
            obtain ⟨t, ⟨ht1, ht2⟩, rfl, HALL, hs⟩ := hrel
            by_cases htn : t < n
            · obtain ⟨b2, o2, e2, hc⟩ := HR.out.cell hs.b2.only htn
              cases e2
              obtain ⟨x2, hx2⟩ : ∃ x2, cells.getD t 0 = x2 := ⟨_, rfl⟩
              rw [hx2] at hc
              have htn2 : (t : Int) < (n : Int) := by omega
              by_cases v2 : x2 = 0
              · have HX2 := Lib.hid (show cells.getD t 0 = 0 from hx2.trans v2)
                clear hx2
                subst v2
                have hit : i < t := by
                  rcases Nat.lt_or_ge i t with h | h
                  · exact h
                  · obtain rfl : i = t := by omega
                    exact absurd HX2.out HI1.out
                by_cases hlen : t - i ≤ wd
                · obtain ⟨j1, _, f1, _⟩ := HF.out.2 i (by omega)
                  obtain ⟨j2, _, f2, _⟩ := HF.out.2 (t - 1) (by omega)
                  have hj := Pan.told_word (cells := cells) (hw := hw) (by rw [HB.out, ← HN.out]; exact HF.out.2) hit (by rw [← HN.out]; exact ht2) f1 f2 HALL.out HP2.out hlen
                  subst hj
                  have HV1 := Lib.hid (natsV_get f1)
                  have HV2 := Lib.hid (natsV_get f2)
                  have e1 : (t : Int) - 1 = ((t - 1 : Nat) : Int) := by omega
                  have z1 : (t : Int) - (i : Int) ≤ (wd : Int) := by omega
                  have z2 : ((t - 1 : Nat) : Int) < (n : Int) := by omega
                  have z3 : (i : Int) < (n : Int) := by omega
                  have HNX := Lib.hid (show (t + 1 = 0 ∨ n < t + 1 ∨ cells.getD (t + 1 - 1) 0 = 0) from .inr (.inr HX2.out))
                  clear f1 f2
                  go_upto_region 29 with fail
                  clear hc
                  ((try simp only [Act.put, List.setIfInBounds_toArray, List.set_cons_succ, List.set_cons_zero]); refine region_sat hs (by kernel_rfl) (by kernel_rfl) ?_; intro X f hne hf hcl; (repeat (first | ((with_reducible apply ldoq (fun x => (hf x).b0)); exact rfl; exact rfl; exact rfl; exact HV1.out; kernel_rfl; (try simp only [Act.put, List.setIfInBounds_toArray, List.set_cons_succ, List.set_cons_zero])) | ((with_reducible apply ldoq (fun x => (hf x).b0)); exact rfl; exact rfl; exact rfl; exact HV2.out; kernel_rfl; (try simp only [Act.put, List.setIfInBounds_toArray, List.set_cons_succ, List.set_cons_zero])) | go_big_quiet_step (fail))); refine wpQuiet_nil ?_; clear hcl hf hne hs f X; intro w hs)
                  go_wp2
                  go_roundw
                  case rel => exact ⟨t + 1, by omega, by go_num, HNX, hs⟩
                  case measure => simp [intOf]; omega
                · have z1 : decide ((t : Int) - (i : Int) ≤ (wd : Int)) = false := decide_eq_false (by omega)
                  have HNX := Lib.hid (show (t + 1 = 0 ∨ n < t + 1 ∨ cells.getD (t + 1 - 1) 0 = 0) from .inr (.inr HX2.out))
                  go_upto_region 29 with fail
                  clear hc
                  ((try simp only [Act.put, List.setIfInBounds_toArray, List.set_cons_succ, List.set_cons_zero]); refine region_sat hs (by kernel_rfl) (by kernel_rfl) ?_; intro X f hne hf hcl; (repeat (first | go_big_quiet_step (fail))); refine wpQuiet_nil ?_; clear hcl hf hne hs f X; intro w hs)
                  go_wp2
                  go_roundw
                  case rel => exact ⟨t + 1, by omega, by go_num, HNX, hs⟩
                  case measure => simp [intOf]; omega
              · have c2 := bne_yes v2
                have HALL2 : Hid (∀ k, i ≤ k → k < t + 1 → cells.getD k 0 ≠ 0) := Lib.hid (fun k h1 h2 => by
                  by_cases e : k = t
                  · subst e; rw [hx2]; exact v2
                  · exact HALL.out k h1 (by omega))
                clear hx2 v2
                go_wp2
                go_roundw
                case rel => exact ⟨t + 1, ⟨by omega, by omega⟩, by go_num, HALL2, hs⟩
                case measure => simp [intOf]; omega
            · have htn2 : ¬ (t : Int) < (n : Int) := by omega
              have hit : i < t := by omega
              by_cases hlen : t - i ≤ wd
              · obtain ⟨j1, _, f1, _⟩ := HF.out.2 i (by omega)
                obtain ⟨j2, _, f2, _⟩ := HF.out.2 (t - 1) (by omega)
                have hj := Pan.told_word (cells := cells) (hw := hw) (by rw [HB.out, ← HN.out]; exact HF.out.2) hit (by rw [← HN.out]; exact ht2) f1 f2 HALL.out HP2.out hlen
                subst hj
                have HV1 := Lib.hid (natsV_get f1)
                have HV2 := Lib.hid (natsV_get f2)
                have e1 : (t : Int) - 1 = ((t - 1 : Nat) : Int) := by omega
                have z1 : (t : Int) - (i : Int) ≤ (wd : Int) := by omega
                have z2 : ((t - 1 : Nat) : Int) < (n : Int) := by omega
                have z3 : (i : Int) < (n : Int) := by omega
                have HNX := Lib.hid (show (t + 1 = 0 ∨ n < t + 1 ∨ cells.getD (t + 1 - 1) 0 = 0) from .inr (.inl (by omega)))
                clear f1 f2
                go_upto_region 29 with fail
                ((try simp only [Act.put, List.setIfInBounds_toArray, List.set_cons_succ, List.set_cons_zero]); refine region_sat hs (by kernel_rfl) (by kernel_rfl) ?_; intro X f hne hf hcl; (repeat (first | ((with_reducible apply ldoq (fun x => (hf x).b0)); exact rfl; exact rfl; exact rfl; exact HV1.out; kernel_rfl; (try simp only [Act.put, List.setIfInBounds_toArray, List.set_cons_succ, List.set_cons_zero])) | ((with_reducible apply ldoq (fun x => (hf x).b0)); exact rfl; exact rfl; exact rfl; exact HV2.out; kernel_rfl; (try simp only [Act.put, List.setIfInBounds_toArray, List.set_cons_succ, List.set_cons_zero])) | go_big_quiet_step (fail))); refine wpQuiet_nil ?_; clear hcl hf hne hs f X; intro w hs)
                go_wp2
                go_roundw
                case rel => exact ⟨t + 1, by omega, by go_num, HNX, hs⟩
                case measure => simp [intOf]; omega
              · have z1 : decide ((t : Int) - (i : Int) ≤ (wd : Int)) = false := decide_eq_false (by omega)
                have HNX := Lib.hid (show (t + 1 = 0 ∨ n < t + 1 ∨ cells.getD (t + 1 - 1) 0 = 0) from .inr (.inl (by omega)))
                go_upto_region 29 with fail
                ((try simp only [Act.put, List.setIfInBounds_toArray, List.set_cons_succ, List.set_cons_zero]); refine region_sat hs (by kernel_rfl) (by kernel_rfl) ?_; intro X f hne hf hcl; (repeat (first | go_big_quiet_step (fail))); refine wpQuiet_nil ?_; clear hcl hf hne hs f X; intro w hs)
                go_wp2
                go_roundw
                case rel => exact ⟨t + 1, by omega, by go_num, HNX, hs⟩
                case measure => simp [intOf]; omega
      · have hin2 : ¬ (i : Int) < (n : Int) := by omega
        go_wp2_with (go_at_call 8; refine (known8 hs).mono ?_; clear hs; rintro e w ⟨rfl, hs⟩)
        go_ret
        exact ⟨rfl, by (refine sat_from ?_ hs; repeat (first | exact Sub.refl _ | exact Sub.nil _ | refine Sub.c0 ?_ | refine Sub.c1 ?_ | refine Sub.c2 ?_ | refine Sub.c3 ?_ | refine Sub.c4 ?_ | refine Sub.c5 ?_ | refine Sub.c6 ?_ | refine Sub.c7 ?_ | refine Sub.c8 ?_ | refine Sub.c9 ?_ | refine Sub.skip ?_))⟩
theorem covers_top {E : Type} {enc : TypeId × Value → E} (a0 : Option Addr) (n0 c0 : Nat) (a1 : Int) (w : World) (r0 : Rd enc Try.prog w 22 [.slice a0 n0 c0]) (_ : (Lit.int .i64 a1).wf = true) :
    Calls Try.prog 3 #[.slice a0 n0 c0, .int .i64 a1] w fun e w' => e = .returned (.bool true) ∧ Below w.heap.size w w' := by
  obtain ⟨cells, hr, _, hn, hm⟩ := rdc_arg r0
  by_cases h : 500 < n0 ∨ a1 < 1 ∨ 80 < a1
  · exact (covers_guard a0 n0 c0 a1 h hm (sat.start w)).mono fun _ _ ⟨he, hs⟩ => ⟨he, hs.below⟩
  · obtain ⟨wd, rfl⟩ : ∃ wd : Nat, a1 = wd := ⟨a1.toNat, by omega⟩
    exact (covers_walk w (by omega) (by omega) hr (by omega) hn (sat.start w)).mono fun _ _ ⟨he, hs⟩ => ⟨he, hs.below⟩
end
end Go.Proofs.Ytdbhgjkdblhhkaa
