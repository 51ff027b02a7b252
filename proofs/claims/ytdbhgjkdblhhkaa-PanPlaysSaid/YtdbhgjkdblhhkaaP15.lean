import Derived.Test.YtdbhgjkdblhhkaaP13
import Derived.Test.YtdbhgjkdblhhkaaP14
namespace Go.Proofs.Ytdbhgjkdblhhkaa
open Go.RowKit Go.Mem
variable {W w : World} {H : List HProp}
def sliceLen : Value → Nat
  | .slice _ n _ => n
  | _ => 0
theorem row44 : rowTy Try.prog 44 2 = true := by kernel_rfl
section
variable {cells : List Int} {Hc : List HProp} {a : Option Addr} {n c wd off b : Nat}
attribute [local irreducible] World.setCell World.setCells World.alloc World.drew World.drewN Calls sat cel own blk old wpQuiet wpList
/-- The document's next begin. -/
theorem next_no {x z : Int} (h : (n : Int) - z ≤ x) (hg : n ≤ 1000) (hz0 : 0 ≤ z) (hz : z ≤ 1000) (w : World) :
    Calls Try.prog 30 #[.slice a n c, .int .i64 z, .int .i64 x] w fun e w' => e = .returned (.int .i64 (-1)) ∧ ∃ k, w' = w.drewN k := by
  go_enter Try.func30, Try.ntmps30
  go_wp2
  go_ret
  exact ⟨rfl, 0, dr0 _⟩
set_option maxHeartbeats 1000000 in
theorem next_yes {bb : Nat} (hw : 0 < wd) (hr : RdC Hc a n c cells) (hg : n ≤ 1000) (h : wd < n - bb) (hs : sat W (Hc ++ H) w) :
    Calls Try.prog 30 #[.slice a n c, .int .i64 (bb : Nat), .int .i64 (wd : Nat)] w fun e w' => e = .returned (.int .i64 (Pan.next cells wd bb : Nat)) ∧ ∃ k, w' = w.drewN k := by
  have hb : bb + wd < n := by omega
  obtain ⟨b1, o1, rfl, hc⟩ := hr.cell hs.only hb
  obtain ⟨k, hk⟩ : ∃ k, bb + wd = k + 1 := ⟨bb + wd - 1, by omega⟩
  obtain ⟨b2, o2, e2, hc2⟩ := hr.cell hs.only (show k < n by omega)
  cases e2
  have hkk : k + 1 < n := by omega
  rw [hk] at hc
  have z1 : (wd : Int) < (n : Int) - (bb : Int) := by omega
  have z2 : (bb : Int) + (wd : Int) = (k : Int) + 1 := by omega
  have z3 : (k : Int) + 1 < (n : Int) := by omega
  have z4 : (k : Int) < (n : Int) := by omega
  obtain ⟨x1, hx1⟩ : ∃ x1, cells.getD (k + 1) 0 = x1 := ⟨_, rfl⟩
  obtain ⟨x2, hx2⟩ : ∃ x2, cells.getD k 0 = x2 := ⟨_, rfl⟩
  rw [hx1] at hc
  rw [hx2] at hc2
  have HR := Lib.hid hr
  have HK := Lib.hid hk
  by_cases v1 : x1 = 0
  · have HF := Lib.hid (show Pan.next cells wd bb = k + 1 by rw [Pan.next_blank (.inl (by rw [hk, hx1]; exact v1)) hw, hk])
    clear hx1 hx2 hk hr
    subst v1
    go_enter Try.func30, Try.ntmps30
    go_wp2
    go_ret
    exact ⟨ret_int (by rw [HF.out]; omega), 0, dr0 _⟩
  · have c1 : (x1 == 0) = false := beq_no v1
    by_cases v2 : x2 = 0
    · have HF := Lib.hid (show Pan.next cells wd bb = k + 1 by rw [Pan.next_blank (.inr (by rw [hk]; exact hx2.trans v2)) hw, hk])
      clear hx1 hx2 hk hr v1
      subst v2
      go_enter Try.func30, Try.ntmps30
      go_wp2
      go_ret
      exact ⟨ret_int (by rw [HF.out]; omega), 0, dr0 _⟩
    · have c2 : (x2 == 0) = false := beq_no v2
      have HF := Lib.hid (show Pan.next cells wd bb = if bb < Pan.first cells (k + 1) then Pan.first cells (k + 1) else k + 1 by
        rw [Pan.next_word (by rw [hk, hx1]; exact v1) hw, hk])
      clear hx1 hx2 hk hr v1 v2
      go_enter Try.func30, Try.ntmps30
      go_wp2
      go_loopw [8] (fun i wr => ∃ f : Nat, f ≤ k + 1 ∧ i = .int .i64 (f : Int) ∧ Hid (Pan.first cells f = Pan.first cells (k + 1)) ∧ ∃ q, wr = w.drewN q) (fun i _ => (intOf i).toNat)
      case atStart => exact ⟨k + 1, Nat.le_refl _, by go_num, Lib.hid rfl, 0, dr0 _⟩
      case round =>
        clear hc hc2
        obtain ⟨f, hf, rfl, HP, q, rfl⟩ := hrel
        cases f with
        | zero =>
          have HG := Lib.hid (show Pan.next cells wd bb = k + 1 by rw [HF.out, ← HP.out, if_neg (by simp [Pan.first])])
          have z5 : ¬ ((bb : Int) < 0) := by omega
          go_wp2
          go_ret
          exact ⟨ret_int (by rw [HG.out] <;> omega), q, rfl⟩
        | succ j =>
          obtain ⟨b3, o3, e3, hcj⟩ := HR.out.cell hs.only (show j < n by omega)
          cases e3
          obtain ⟨x3, hx3⟩ : ∃ x3, cells.getD j 0 = x3 := ⟨_, rfl⟩
          rw [hx3] at hcj
          have z5 : (0 : Int) < (j : Int) + 1 := by omega
          have z6 : (j : Int) < (n : Int) := by omega
          by_cases v3 : x3 = 0
          · have HS := Lib.hid (show Pan.first cells (k + 1) = j + 1 by rw [← HP.out]; exact Pan.first_stop (hx3.trans v3))
            clear hx3
            subst v3
            by_cases hbj : bb < j + 1
            · have HG := Lib.hid (show Pan.next cells wd bb = j + 1 by rw [HF.out, HS.out, if_pos hbj])
              have z7 : (bb : Int) < (j : Int) + 1 := by omega
              go_wp2
              go_ret
              exact ⟨ret_int (by rw [HG.out] <;> omega), q, rfl⟩
            · have HG := Lib.hid (show Pan.next cells wd bb = k + 1 by rw [HF.out, HS.out, if_neg hbj])
              have z7 : ¬ (bb : Int) < (j : Int) + 1 := by omega
              go_wp2
              go_ret
              exact ⟨ret_int (by rw [HG.out] <;> omega), q, rfl⟩
          · have c3 := bne_yes v3
            have HP2 := Lib.hid (show Pan.first cells j = Pan.first cells (k + 1) by rw [← HP.out]; exact (Pan.first_on (by rw [hx3]; exact v3)).symm)
            clear hx3 v3
            go_wp2
            go_roundw
            case rel => exact ⟨j, by omega, by go_num, HP2, q, rfl⟩
            case measure => simp [intOf]
theorem next_no_s {x z : Int} (h : (n : Int) - z ≤ x) (hg : n ≤ 1000) (hz0 : 0 ≤ z) (hz : z ≤ 1000) (hs : sat W H w) :
    Calls Try.prog 30 #[.slice a n c, .int .i64 z, .int .i64 x] w fun e w' => e = .returned (.int .i64 (-1)) ∧ sat W H w' :=
  (next_no h hg hz0 hz w).mono fun _ _ ⟨h, k, e⟩ => ⟨h, e ▸ hs.drewN k⟩
theorem next_yes_s {bb y : Nat} (hw : 0 < wd) (hr : RdC Hc a n c cells) (hg : n ≤ 1000) (h : wd < n - bb) (hy : Pan.next cells wd bb = y) (hs : sat W (Hc ++ H) w) :
    Calls Try.prog 30 #[.slice a n c, .int .i64 (bb : Nat), .int .i64 (wd : Nat)] w fun e w' => e = .returned (.int .i64 (y : Nat)) ∧ sat W (Hc ++ H) w' := by
  subst hy
  exact (next_yes hw hr hg h hs).mono fun _ _ ⟨h, k, e⟩ => ⟨h, e ▸ hs.drewN k⟩
set_option maxHeartbeats 1000000 in
theorem rbegins19 (hw : 0 < wd) (_hw2 : wd ≤ 80) (hr : RdC Hc a n c cells) (hg : n ≤ 1000) (hs : sat W (Hc ++ H) w) :
    Calls Try.prog 19 #[.slice a n c, .int .i64 (wd : Nat)] w fun e w' => ∃ a' c', e = .returned (.slice a' (Pan.begs cells wd hw 0).length c') ∧ sat W (own 3 1 (.slice a' (Pan.begs cells wd hw 0).length c') (Pan.begs cells wd hw 0).length (natsV (Pan.begs cells wd hw 0)) :: (Hc ++ H)) w' := by
  have hn := (hr.len hs.only).1
  have hbl := begs_le (cells := cells) (wd := wd) (hw := hw) (by omega)
  have HR := Lib.hid hr
  have HN := Lib.hid hn
  have HBL := Lib.hid hbl
  clear hr hn hbl
  go_enter Try.func19, Try.ntmps19
  go_wp2_with (first | ((with_reducible refine isl ?_); first | ((with_reducible refine wrap hs ?_); clear hs; (first | generalize w.heap.size = z1); intro w hs) | ((with_reducible refine wrap hs ?_); clear hs; intro w hs) | ((with_reducible refine wrapn hs ?_); clear hs; intro w hs) | ((with_reducible refine wrapd hs ?_); clear hs; intro w hs)))
  have hs1 : sat W (cel w.heap.size 3 [.int .i64 0] :: (Hc ++ H)) (w.alloc (.cells #[.int .i64 0] 3)) := hs.made
  clear hs
  revert hs1
  generalize w.heap.size = z1
  generalize w.alloc _ = w2
  intro hs
  replace hs := sat.cel_own (l := [.int .i64 0]) hs (by unfold maxLen; decide)
  go_loopw [5, 6] (fun s5 _ wr => ∃ (pre : List Nat) (bb q : Nat) (a1 : Option Addr) (c1 : Nat), (bb ≤ n ∧ q < 1000000) ∧ s5 = .slice a1 (q + 1) c1 ∧ Hid (pre.length = q ∧ pre ++ Pan.begs cells wd hw bb = Pan.begs cells wd hw 0) ∧ sat W (own 3 1 (.slice a1 (q + 1) c1) (q + 1) (natsV (pre ++ [bb])) :: (Hc ++ H)) wr) (fun s5 _ _ => 2000000 - sliceLen s5)
  case atStart => exact ⟨[], 0, 0, _, _, ⟨Nat.zero_le _, by decide⟩, rfl, Lib.hid ⟨rfl, rfl⟩, hs⟩
  case round =>
    clear hs
    obtain ⟨pre, bb, q, a1, c1, ⟨hb, hq⟩, rfl, HP, hs⟩ := hrel
    obtain ⟨g1, c2, e1⟩ := hs.own_some (by omega)
    cases e1
    have HX := Lib.hid (show (natsV (pre ++ [bb]))[q]? = some (.int .i64 (bb : Nat)) by rw [← HP.out.1]; simp)
    by_cases hmore : wd < n - bb
    · obtain ⟨y, hy⟩ : ∃ y, Pan.next cells wd bb = y := ⟨_, rfl⟩
      have HY := Lib.hid hy
      have hyn : y ≤ n := by have := Pan.next_le (cells := cells) (w := wd) (b := bb); omega
      have z1 : ¬ (y : Int) < 0 := by omega
      have hp2 : (pre ++ [bb]) ++ Pan.begs cells wd hw y = Pan.begs cells wd hw 0 := by
        rw [← HP.out.2, Pan.begs_more (b := bb) (by rw [← HN.out]; exact hmore), hy]; simp
      have hq2 : q + 1 < 1000000 := by
        have h1 := HBL.out
        rw [← hp2] at h1
        have h2 := Pan.begs_zero (cells := cells) (hw := hw)
        have h3 : 0 < (Pan.begs cells wd hw y).length := by
          by_cases h : wd < cells.length - y
          · rw [Pan.begs_more h]; simp
          · rw [Pan.begs_last h]; simp
        have h4 := HP.out.1
        simp at h1
        omega
      have HP2 := Lib.hid (show (pre ++ [bb]).length = q + 1 ∧ (pre ++ [bb]) ++ Pan.begs cells wd hw y = Pan.begs cells wd hw 0 from ⟨by simp [HP.out.1], hp2⟩)
      clear hy hp2
      go_wp2_with (first | (go_at_call 30; refine (next_yes_s (Hc := _ :: Hc) (H := H) hw HR.out.more hg hmore HY.out hs).mono ?_; clear hs; rintro e w ⟨rfl, hs⟩) | ((with_reducible refine isl ?_); first | ((with_reducible apply ldo hs.b0); exact rfl; exact rfl; exact rfl; exact HX.out; kernel_rfl) | ((with_reducible apply app hs.b1); exact rfl; exact rfl; exact rfl; exact rfl; exact slty25; exact rfl; exact rfl; decide; omega; unfold maxLen; omega; clear hs; intro g5 c5 w hs) | ((with_reducible refine wrap hs ?_); clear hs; (first | generalize w.heap.size = z5); intro w hs) | ((with_reducible refine wrap hs ?_); clear hs; intro w hs) | ((with_reducible refine wrapn hs ?_); clear hs; intro w hs) | ((with_reducible refine wrapd hs ?_); clear hs; intro w hs)))
      go_roundw
      case rel => exact ⟨pre ++ [bb], y, q + 1, _, _, ⟨hyn, hq2⟩, rfl, HP2, by
        simp only [List.map_append, List.map_cons, List.map_nil, List.append_assoc] at hs ⊢
        exact hs⟩
      case measure => simp [sliceLen]; omega
    · have hfin : pre ++ [bb] = Pan.begs cells wd hw 0 := by rw [← HP.out.2, Pan.begs_last (by rw [← HN.out]; exact hmore)]
      have HF := Lib.hid hfin
      have HL := Lib.hid (show (Pan.begs cells wd hw 0).length = q + 1 by rw [← hfin]; simp [HP.out.1])
      have z1 : (n : Int) - (bb : Int) ≤ (wd : Int) := by omega
      have z2 : (0 : Int) ≤ (bb : Int) := by omega
      have z3 : (bb : Int) ≤ 1000 := by omega
      clear hfin
      go_wp2_with (first | (go_at_call 30; refine (next_no_s z1 hg z2 z3 hs).mono ?_; clear hs; rintro e w ⟨rfl, hs⟩) | ((with_reducible refine isl ?_); first | ((with_reducible apply ldo hs.b0); exact rfl; exact rfl; exact rfl; exact HX.out; kernel_rfl) | ((with_reducible refine wrap hs ?_); clear hs; intro w hs) | ((with_reducible refine wrapn hs ?_); clear hs; intro w hs) | ((with_reducible refine wrapd hs ?_); clear hs; intro w hs)))
      go_ret
      rw [HL.out, ← HF.out]
      exact ⟨_, _, rfl, hs⟩
end
end Go.Proofs.Ytdbhgjkdblhhkaa
