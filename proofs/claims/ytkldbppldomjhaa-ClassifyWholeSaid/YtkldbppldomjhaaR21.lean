/- Law 16: ClassifyTyped: the typing (the rest: to be typed). -/
import Derived.Test.YtkldbppldomjhaaR14
import Derived.Test.YtkldbppldomjhaaR19
import Derived.Test.YtkldbppldomjhaaR16
namespace Go.Proofs.Ytkldbppldomjhaa
open Go.RowKit Go.Mem Go.Typed Go.Front Go.Classify
variable {W w : World} {H : List HProp}
open Go.Typed
def tyC (t : Int) (l : List Int) (j : Nat) (tn : Int) : Cl := ⟨(l.take j).map (fun r => ⟨r, t + 10⟩), 10, tn, Front.new, 10, zr, 0, 0⟩
theorem SRreads {a : Option Addr} {n c : Nat} {l : List Int} (h : SR 1 W H a n c (l.map fun x => [.int .i32 x])) (hs : sat W H w) : Reads w (.slice a n c) (runes l) := by
  have hn : n = l.length := by have := h.len.1; rwa [List.length_map] at this
  refine ⟨by rw [runes_len, ← hn]; exact Nat.le_trans h.len.2.1 h.len.2.2, a, c, by rw [runes_len, hn], fun hne => ?_⟩
  have h0 : 0 < n := by
    rcases Nat.eq_zero_or_pos n with h0 | h0
    · rw [hn] at h0
      rw [List.eq_nil_of_length_eq_zero h0] at hne
      exact absurd rfl hne
    · exact h0
  obtain ⟨_, _, b, off, e, _⟩ := h.getb hs h0
  refine ⟨b, off, e, fun i u hu => ?_⟩
  have hi : i < n := by
    have := (List.getElem?_eq_some_iff.1 hu).1
    rw [runes_len] at this
    omega
  obtain ⟨x, hx, b2, o2, e2, hc⟩ := h.getb hs hi
  rw [e] at e2
  cases e2
  rw [hc _ hs]
  unfold runes at hu
  rw [List.getElem?_map, hx] at hu
  exact hu
attribute [local irreducible] World.setCell World.setCells World.alloc World.drew World.drewN Calls sat cel own blk old wpQuiet wpList tyL ringC rns tyP clP rnl
variable {b z : Nat} {c : Cl}
attribute [local irreducible] lst feedc
theorem typed10 {t tn r : Int} {l : List Int} {j : Nat} (hl : l.length ≤ 60) (h0 : 0 ≤ t) (h1 : t ≤ 1099511627776) (h2 : 0 ≤ tn) (h3 : tn ≤ t) (hr : l[j]? = some r) (hs : sat W (clP b (tyC t l j tn) :: H) w) :
    Calls Try.prog 10 #[.pointer (some ⟨b, 0, none⟩), .int .i32 r, .int .i64 t] w fun e w' => e = .returned (.tuple #[]) ∧ sat W (clP b (tyC t l (j + 1) t) :: H) w' := by
  refine (type10 (c := tyC t l j tn) (r := r) (t := t) ⟨by simp [tyC], by simp [tyC], h2, by show tn ≤ _; omega, by simp [tyC], by simp [tyC], by simp [tyC], by simp [tyC], by simp [tyC], by simp [tyC], by simp [tyC, zr]⟩ hs).mono fun e w' h => ⟨h.1, ?_⟩
  have e1 : tick tn t = t := tick_is h3 h1
  have h4 := h.2
  unfold tyC at h4 ⊢
  simp only [e1, push_typed hl hr] at h4
  exact h4
theorem inv_two {t : Int} {T M : List Int} {k : Nat} {c : Cl} {out : List Run} (h : Inv t T M k c out) : out.length ≤ 2 := by
  rcases h.run with ⟨_, _, rfl⟩ | ⟨_, _, rfl⟩
  · simp
  · split <;> simp
theorem same9_want {aE a8 : Option Addr} {nE cE c8 : Nat} {R : List Run} {L : List (List Value)} (hR : R.length = nE) (hn : nE ≤ 100000) (hl : ∀ r ∈ L, r.length = 4)
    (D : ∀ (i : Nat) (x : Run), R[i]? = some x → ∃ (aT : Option Addr) (cT : Nat), L[i]? = some (rnC x (.slice aT x.text.length cT)) ∧ ∀ w', sat W H w' → Reads w' (.slice aT x.text.length cT) (runes x.text))
    (hs : sat W (own 36 4 (.slice aE nE cE) nE L.flatten :: rns (.slice a8 nE c8) R :: H) w) :
    Calls Try.prog 9 #[.slice a8 nE c8, .slice aE nE cE] w fun e w' => e = .returned (.bool true) ∧ sat W (own 36 4 (.slice aE nE cE) nE L.flatten :: rns (.slice a8 nE c8) R :: H) w' := by
  obtain ⟨L1, k1⟩ := rns_open hs.b1
  rw [hR] at k1
  have hs : sat W (own 36 4 (.slice a8 nE c8) nE L1.flatten :: own 36 4 (.slice aE nE cE) nE L.flatten :: rnl R L1 :: H) w := by (refine sb_from ?_ k1; repeat constructor)
  clear k1
  have R1 := rnl_rows hs.b2
  have S1 : SR 4 W (own 36 4 (.slice a8 nE c8) nE L1.flatten :: own 36 4 (.slice aE nE cE) nE L.flatten :: rnl R L1 :: H) a8 nE c8 L1 := SR.of_own hs (by decide) fun r hr => (R1.2 r hr).1
  have S2 : SR 4 W (own 36 4 (.slice a8 nE c8) nE L1.flatten :: own 36 4 (.slice aE nE cE) nE L.flatten :: rnl R L1 :: H) aE nE cE L := (SR.of_own hs.b1 (by decide) hl).mono fun w' h => h.b1
  have D1 : ∀ (i : Nat) (x : Run), R[i]? = some x → ∃ c, L1[i]? = some c ∧ RdR W (own 36 4 (.slice a8 nE c8) nE L1.flatten :: own 36 4 (.slice aE nE cE) nE L.flatten :: rnl R L1 :: H) x c := fun i x hx => rnl_rdr (fun w' h => ⟨_, h.b2⟩) hs hx
  have D2 : ∀ (i : Nat) (x : Run), R[i]? = some x → ∃ c, L[i]? = some c ∧ RdR W (own 36 4 (.slice a8 nE c8) nE L1.flatten :: own 36 4 (.slice aE nE cE) nE L.flatten :: rnl R L1 :: H) x c := fun i x hx => by
    obtain ⟨aT, cT, h1, h2⟩ := D i x hx
    exact ⟨_, h1, aT, cT, rfl, fun w' h => h2 w' (h.dropN 3)⟩
  exact (same9_rd hR hn S1 S2 D1 D2 hs).mono fun e w' h => ⟨h.1, by
    have h1 : sat W (own 36 4 (.slice a8 nE c8) R.length L1.flatten :: rnl R L1 :: own 36 4 (.slice aE nE cE) nE L.flatten :: H) w' := by rw [hR]; (refine sb_from ?_ h.2; repeat constructor)
    exact (rns_mk rfl h1).b1⟩
def rowE (T : List Int) (k f t : Int) (a : Option Addr) (n c : Nat) : List (List Value) := if T = [] then [] else [rnC ⟨k, f, t, T⟩ (.slice a n c)]
theorem rowE_len {T : List Int} {k f t : Int} {a : Option Addr} {n c : Nat} : ∀ r ∈ rowE T k f t a n c, r.length = 4 := by
  unfold rowE
  split <;> simp [rnC]
theorem wantR_len {T M : List Int} : (wantR T M).length ≤ 2 := by
  unfold wantR
  split <;> split <;> simp
theorem want_rows {l m : List Int} {a1 a2 : Option Addr} {n1 n2 c1 c2 k : Nat} (h1 : ∀ w', sat W H w' → Reads w' (.slice a1 n1 c1) (runes l)) (h2 : ∀ w', sat W H w' → Reads w' (.slice a2 n2 c2) (runes m)) (hll : l.length = n1) (hml : m.length = n2) (hk : k = n1 + n2) :
    ∀ (i : Nat) (x : Run), (wantR l m)[i]? = some x → ∃ (aT : Option Addr) (cT : Nat), (rowE l 1 0 n1 a1 n1 c1 ++ rowE m 2 n1 k a2 n2 c2)[i]? = some (rnC x (.slice aT x.text.length cT)) ∧ ∀ w', sat W H w' → Reads w' (.slice aT x.text.length cT) (runes x.text) := by
  intro i x hx
  have e1 : ∀ w', sat W H w' → Reads w' (.slice a1 l.length c1) (runes l) := by rw [hll]; exact h1
  have e2 : ∀ w', sat W H w' → Reads w' (.slice a2 m.length c2) (runes m) := by rw [hml]; exact h2
  have ek : (k : Int) = (l.length : Int) + (m.length : Int) := by omega
  unfold wantR at hx
  unfold rowE
  rw [← hll, ← hml, ek]
  by_cases hl : l = []
  · by_cases hm : m = []
    · simp [hl, hm] at hx
    · rw [if_pos hl, if_neg hm, List.nil_append] at hx ⊢
      rcases i with _ | i
      · simp only [List.getElem?_cons_zero, Option.some.injEq] at hx
        subst hx
        exact ⟨a2, c2, rfl, e2⟩
      · simp at hx
  · by_cases hm : m = []
    · rw [if_neg hl, if_pos hm, List.append_nil] at hx ⊢
      rcases i with _ | i
      · simp only [List.getElem?_cons_zero, Option.some.injEq] at hx
        subst hx
        exact ⟨a1, c1, rfl, e1⟩
      · simp at hx
    · rw [if_neg hl, if_neg hm] at hx ⊢
      rcases i with _ | _ | i
      · have hx := Option.some.inj hx
        subst hx
        exact ⟨a1, c1, rfl, e1⟩
      · have hx := Option.some.inj hx
        subst hx
        exact ⟨a2, c2, rfl, e2⟩
      · simp at hx
theorem endr_run {c c' : Cl} {o : List Run} (h : endr c = (c', o)) : c'.run.text.length = 0 := by
  unfold endr at h
  cases h
  rfl
set_option maxHeartbeats 1000000 in
set_option maxRecDepth 8000 in
theorem typed4 {a1 a2 : Option Addr} {n1 n2 c1 c2 : Nat} {t : Int} {l m : List Int} (hl : SR 1 W H a1 n1 c1 (l.map fun x => [.int .i32 x])) (hm : SR 1 W H a2 n2 c2 (m.map fun x => [.int .i32 x])) (hll : l.length = n1) (hml : m.length = n2) (h1 : n1 ≤ 60) (h2 : n2 ≤ 60) (h3 : 0 ≤ t) (h4 : t ≤ 1099511627776) (hs : sat W H w) :
    Calls Try.prog 4 #[.slice a1 n1 c1, .slice a2 n2 c2, .int .i64 t] w fun e w' => e = .returned (.bool true) ∧ sat W H w' := by
  have HL := Lib.hid hl
  have HM := Lib.hid hm
  have HLL : Hid (l.length ≤ 60) := Lib.hid (by omega)
  have HB := Lib.hid (And.intro h3 h4)
  have g : decide ((60 : Int) < (n1 : Int)) = false := decide_eq_false (by omega)
  have g2 : decide ((60 : Int) < (n2 : Int)) = false := decide_eq_false (by omega)
  have g3 : decide (t < 0) = false := decide_eq_false (by omega)
  have g4 : decide ((1099511627776 : Int) < t) = false := decide_eq_false (by omega)
  clear hl hm h3 h4
  go_enter Try.func4, Try.ntmps4
  go_wp2_with (first | (go_at_call 5; refine (new5 (by decide) (by decide) (by decide) (by decide) hs).mono ?_; clear hs; rintro e w ⟨z, rfl, hs⟩) | ((with_reducible refine isl ?_); first | ((with_reducible refine wrap hs ?_); clear hs; intro w hs) | ((with_reducible refine wrapn hs ?_); clear hs; intro w hs) | ((with_reducible refine wrapd hs ?_); clear hs; intro w hs)))
  go_loopw [45] (fun i wr => ∃ (j : Nat) (tn : Int), j ≤ n1 ∧ i = .int .i64 (j : Int) ∧ Hid (0 ≤ tn ∧ tn ≤ t) ∧ sat W (clP z (tyC t l j tn) :: H) wr) (fun i _ => ((n1 : Int) - intOf i).toNat)
  case atStart => exact ⟨0, 0, Nat.zero_le _, rfl, Lib.hid ⟨Int.le_refl _, HB.out.1⟩, hs⟩
  case round =>
    clear hs
    obtain ⟨j, tn, hj, rfl, HT, hs⟩ := hrel
    by_cases hjn : j < n1
    · obtain ⟨x, hx, b1, o1, rfl, hc⟩ := HL.out.getb (hs.dropN 1) hjn
      have hc := hc _ (hs.dropN 1)
      have HX : Hid (l[j]? = some x) := Lib.hid hx
      clear hx
      go_wp2_with (first | (go_at_call 10; refine (typed10 HLL.out HB.out.1 HB.out.2 HT.out.1 HT.out.2 HX.out hs).mono ?_; clear hs hc; rintro e w ⟨rfl, hs⟩) | ((with_reducible refine isl ?_); first | ((with_reducible refine wrap hs ?_); clear hs; intro w hs) | ((with_reducible refine wrapn hs ?_); clear hs; intro w hs) | ((with_reducible refine wrapd hs ?_); clear hs; intro w hs)))
      go_roundw
      case rel => exact ⟨j + 1, t, by omega, by go_num, Lib.hid ⟨HB.out.1, Int.le_refl _⟩, hs⟩
      case measure => simp [intOf]; omega
    · obtain rfl : n1 = j := by omega
      have HI : Hid (Inv t l m 0 (tyC t l n1 tn) []) := Lib.hid (by unfold tyC; rw [List.take_of_length_le (by omega)]; exact inv_start HB.out.1 HT.out.1 HT.out.2)
      have HR1 : Hid (∀ w, sat W H w → Reads w (.slice a1 n1 c1) (runes l)) := Lib.hid fun w hs => SRreads HL.out hs
      have HR2 : Hid (∀ w, sat W H w → Reads w (.slice a2 n2 c2) (runes m)) := Lib.hid fun w hs => SRreads HM.out hs
      have HO : Hid (∀ l : List Int, ∀ u ∈ runes l, u.oneCell' = true) := Lib.hid fun l => by unfold runes; exact ints_ok
      have HN1 : Hid ((runes l).length = n1) := Lib.hid (by rw [runes_len, hll])
      have HN2 : Hid ((runes m).length = n2) := Lib.hid (by rw [runes_len, hml])
      go_wp2_with (first | ((with_reducible refine isl ?_); first | ((with_reducible apply appf hs); exact rfl; exact rfl; exact rfl; exact rfl; exact slty30; exact HR1.out _ (hs.dropN 2); exact HO.out l; exact HN1.out; omega; clear hs; intro a5 c5 w hs) | ((with_reducible apply apprm hs); exact rfl; exact rfl; exact rfl; exact rfl; exact slty30; exact HR2.out _ (hs.dropN 2); exact HO.out m; exact HN2.out; omega; (unfold maxLen; omega); clear hs; intro a6 c6 w hs) | ((with_reducible refine wrap hs ?_); clear hs; intro w hs) | ((with_reducible refine wrapn hs ?_); clear hs; intro w hs) | ((with_reducible refine wrapd hs ?_); clear hs; intro w hs)))
      have HE : Hid (∀ k r, (l ++ m)[k]? = some r → (runes l ++ runes m)[k]? = some (Value.int .i32 r)) := Lib.hid fun k r h => by
        unfold runes
        rw [← List.map_append, List.getElem?_map, h]
        rfl
      have hlm : (l ++ m).length = n1 + n2 := by rw [List.length_append, hll, hml]
      have hs := rns_nil hs
      go_loopw [60, 11, 12] (fun (i v u : Value) wr => ∃ (k q : Nat) (c : Cl) (out : List Run) (a : Option Addr) (cp : Nat), k ≤ n1 + n2 ∧ i = .int .i64 (k : Int) ∧ u = .int .u64 (k : Int) ∧ v = .slice a q cp ∧ q ≤ 2 ∧ Hid (out.length = q) ∧ Hid (Inv t l m k c out) ∧ sat W (rns (.slice a q cp) out :: clP z c :: own 21 1 (.slice a6 (n1 + n2) c6) (n1 + n2) (runes l ++ runes m) :: H) wr) (fun (i _ _ : Value) _ => (((n1 + n2 : Nat) : Int) - intOf i).toNat)
      case atStart => exact ⟨0, 0, _, [], none, 0, Nat.zero_le _, rfl, rfl, rfl, Nat.zero_le _, Lib.hid rfl, HI, by (refine sb_from ?_ hs; repeat constructor)⟩
      case round =>
        clear hs
        obtain ⟨k, q, c, out, a, cp, hk, rfl, rfl, rfl, hq, HQ, HV, hs⟩ := hrel
        by_cases hkn : k < n1 + n2
        · obtain ⟨r, hr⟩ : ∃ r, (l ++ m)[k]? = some r := ⟨_, List.getElem?_eq_getElem (by rw [hlm]; exact hkn)⟩
          obtain ⟨c', o, hf, hI⟩ := inv_step HV.out HB.out.1 HB.out.2 HLL.out (by omega) hr
          obtain ⟨p, hp⟩ : ∃ p, o.length = p := ⟨_, rfl⟩
          have hqp : q + p ≤ 2 := by
            rw [← HQ.out, ← hp, ← List.length_append]
            exact inv_two hI
          have HC : Hid ((runes l ++ runes m)[k]? = some (Value.int .i32 r)) := Lib.hid (HE.out k r hr)
          have HF : Hid (∀ (H : List HProp) (w : World) (hs : sat W (clP z c :: H) w), _) := Lib.hid fun H w hs => feed7 (t := t) (e := ⟨1, k, 0, 0, false, r, true, false, false, false⟩) (inv_ok HV.out HB.out.2 HLL.out (by omega)) ⟨by simp, by simp⟩ (by simp) (by simp; omega) hf hs
          rw [hp] at HF
          have HI2 := Lib.hid hI
          have HP : Hid ((out ++ o).length = q + p) := Lib.hid (by rw [List.length_append, HQ.out, hp])
          clear hr hf hp hI
          obtain ⟨g5, rfl⟩ : ∃ g5, a6 = some ⟨g5, 0, none⟩ := by
            rcases hs.b2.own_cases.2 with ⟨_, h0, _⟩ | ⟨g5, _, _, e, _⟩
            · omega
            · cases e; exact ⟨g5, rfl⟩
          go_wp2_with (first | (go_at_call 7; refine (HF.out _ _ (by apply sk_from (hs := hs); repeat constructor)).mono ?_; clear hs; rintro e w ⟨a7, c7, rfl, hs⟩) | (apply apprns (l1 := out) (l2 := o) (by refine sb_from ?_ hs; repeat constructor); exact rfl; exact rfl; exact rfl; exact rfl; exact slty29; omega; clear hs; intro a8 c8 w hs) | ((with_reducible refine isl ?_); first | ((with_reducible apply ldo hs.b2); exact rfl; exact rfl; exact rfl; exact HC.out; kernel_rfl) | ((with_reducible refine wrap hs ?_); clear hs; intro w hs) | ((with_reducible refine wrapn hs ?_); clear hs; intro w hs) | ((with_reducible refine wrapd hs ?_); clear hs; intro w hs)))
          go_roundw
          case rel => exact ⟨k + 1, q + p, c', out ++ o, _, _, by omega, by go_num, by go_num, rfl, hqp, HP, HI2, by (refine sb_from ?_ hs; repeat constructor)⟩
          case measure => simp [intOf]; omega
        · have HK2 : Hid (k = n1 + n2) := Lib.hid (by omega)
          have hge : ¬ (k : Int) < ((n1 + n2 : Nat) : Int) := by omega
          have HV2 : Inv t l m (l.length + m.length) c out := by
            have h := HV.out
            rwa [show k = l.length + m.length by omega] at h
          obtain ⟨c', o, he, ho, he2⟩ := inv_end HV2
          have h200 : c.run.text.length ≤ 1000 := by
            have h := (inv_ok HV.out HB.out.2 HLL.out (by omega)).2.2.2.2.2.2.2.2.2.2
            omega
          obtain ⟨p, hp⟩ : ∃ p, o.length = p := ⟨_, rfl⟩
          have hqp : q + p ≤ 2 := by
            rw [← HQ.out, ← hp, ← List.length_append, ho]
            exact wantR_len
          have HE1 : Hid (∀ (H : List HProp) (w : World) (hs : sat W (clP z c :: H) w), _) := Lib.hid fun H w hs => end11 he h200 hs
          have HE2 : Hid (∀ (H : List HProp) (w : World) (hs : sat W (clP z c' :: H) w), _) := Lib.hid fun H w hs => end11 he2 (by rw [endr_run he]; decide) hs
          rw [hp] at HE1
          have HO2 : Hid (out ++ o = wantR l m) := Lib.hid ho
          have HWL : Hid ((wantR l m).length = q + p) := Lib.hid (by rw [← ho, List.length_append, HQ.out, hp])
          clear he ho he2 h200 hp HV2 hkn
          go_upto_region 20 with (first | (go_at_call 11; refine (HE1.out _ _ (by apply sk_from (hs := hs); repeat constructor)).mono ?_; clear hs; rintro e w ⟨a7, c7, rfl, hs⟩) | (apply apprns (l1 := out) (l2 := o) (by refine sb_from ?_ hs; repeat constructor); exact rfl; exact rfl; exact rfl; exact rfl; exact slty29; omega; clear hs; intro a8 c8 w hs) | ((with_reducible refine isl ?_); first | ((with_reducible refine wrap hs ?_); clear hs; intro w hs) | ((with_reducible refine wrapn hs ?_); clear hs; intro w hs) | ((with_reducible refine wrapd hs ?_); clear hs; intro w hs)))
          rw [HO2.out] at hs
          go_cut [15] (fun v wx => ∃ (aE : Option Addr) (cE : Nat), v = .slice aE 0 cE ∧ sat W (own 36 4 (.slice aE 0 cE) 0 [] :: rns (.slice a8 (q + p) c8) (wantR l m) :: clP z c' :: H) wx)
          case first =>
            go_wp2_with fail
            go_meet
            case rel => exact ⟨none, 0, rfl, (by refine sb_from ?_ (hs.own_nil 36 4); repeat constructor)⟩
          case rest =>
            clear hs
            obtain ⟨aE, cE, rfl, hs⟩ := hcut
            go_upto_if 81 with fail
            try simp only [Act.put, List.setIfInBounds_toArray, List.set_cons_succ, List.set_cons_zero]
            go_cut [15] (fun v wx => ∃ (aE : Option Addr) (nE cE : Nat), v = .slice aE nE cE ∧ nE ≤ 1 ∧ Hid (nE = (rowE l 1 0 n1 a1 n1 c1).length) ∧ sat W (own 36 4 (.slice aE nE cE) nE (rowE l 1 0 n1 a1 n1 c1).flatten :: rns (.slice a8 (q + p) c8) (wantR l m) :: clP z c' :: H) wx)
            case first =>
              by_cases hz : 0 < n1
              · have HT : Hid (rowE l 1 0 n1 a1 n1 c1 = [rnC ⟨1, 0, n1, l⟩ (.slice a1 n1 c1)]) := Lib.hid (by unfold rowE; rw [if_neg]; rintro rfl; simp at hll; omega)
                have hz2 : (0 : Int) < (n1 : Int) := by omega
                go_wp2_with (first | (first | ((with_reducible apply app hs.b0); exact rfl; exact rfl; exact rfl; exact rfl; exact slty29; exact rfl; exact rfl; decide; omega; (unfold maxLen; omega); clear hs; intro a9 c9 w hs) | ((with_reducible apply app hs.b1); exact rfl; exact rfl; exact rfl; exact rfl; exact slty29; exact rfl; exact rfl; decide; omega; (unfold maxLen; omega); clear hs; intro a9 c9 w hs)) | ((with_reducible refine isl ?_); first | ((with_reducible refine wrap hs ?_); clear hs; intro w hs) | ((with_reducible refine wrapn hs ?_); clear hs; intro w hs) | ((with_reducible refine wrapd hs ?_); clear hs; intro w hs)))
                go_meet
                case rel =>
                  refine ⟨_, _, _, rfl, by omega, Lib.hid (by rw [HT.out]; rfl), ?_⟩
                  rw [HT.out]
                  (refine sb_from ?_ hs; repeat constructor)
              · have HT : Hid (rowE l 1 0 n1 a1 n1 c1 = []) := Lib.hid (by unfold rowE; rw [if_pos]; exact List.eq_nil_of_length_eq_zero (by omega))
                have hz2 : ¬ (0 : Int) < (n1 : Int) := by omega
                go_wp2_with fail
                go_meet
                case rel =>
                  refine ⟨_, _, _, rfl, by omega, Lib.hid (by rw [HT.out]; rfl), ?_⟩
                  rw [HT.out]
                  (refine sb_from ?_ hs; repeat constructor)
            case rest =>
              clear hs
              obtain ⟨aE, nE, cE, rfl, hE, HEL, hs⟩ := hcut
              go_upto_if 92 with fail
              try simp only [Act.put, List.setIfInBounds_toArray, List.set_cons_succ, List.set_cons_zero]
              go_cut [15] (fun v wx => ∃ (aE : Option Addr) (nE cE : Nat), v = .slice aE nE cE ∧ nE ≤ 2 ∧ Hid (nE = (rowE l 1 0 n1 a1 n1 c1 ++ rowE m 2 n1 k a2 n2 c2).length) ∧ sat W (own 36 4 (.slice aE nE cE) nE (rowE l 1 0 n1 a1 n1 c1 ++ rowE m 2 n1 k a2 n2 c2).flatten :: rns (.slice a8 (q + p) c8) (wantR l m) :: clP z c' :: H) wx)
              case first =>
                by_cases hz : 0 < n2
                · have HT : Hid (rowE m 2 n1 k a2 n2 c2 = [rnC ⟨2, n1, k, m⟩ (.slice a2 n2 c2)]) := Lib.hid (by unfold rowE; rw [if_neg]; rintro rfl; simp at hml; omega)
                  have hz2 : (0 : Int) < (n2 : Int) := by omega
                  go_wp2_with (first | (first | ((with_reducible apply app hs.b0); exact rfl; exact rfl; exact rfl; exact rfl; exact slty29; exact rfl; exact rfl; decide; omega; (unfold maxLen; omega); clear hs; intro a9 c9 w hs) | ((with_reducible apply app hs.b1); exact rfl; exact rfl; exact rfl; exact rfl; exact slty29; exact rfl; exact rfl; decide; omega; (unfold maxLen; omega); clear hs; intro a9 c9 w hs)) | ((with_reducible refine isl ?_); first | ((with_reducible refine wrap hs ?_); clear hs; intro w hs) | ((with_reducible refine wrapn hs ?_); clear hs; intro w hs) | ((with_reducible refine wrapd hs ?_); clear hs; intro w hs)))
                  go_meet
                  case rel =>
                    refine ⟨_, _, _, rfl, by omega, Lib.hid (by rw [HT.out, List.length_append, ← HEL.out]; rfl), ?_⟩
                    rw [HT.out, List.flatten_append]
                    (refine sb_from ?_ hs; repeat constructor)
                · have HT : Hid (rowE m 2 n1 k a2 n2 c2 = []) := Lib.hid (by unfold rowE; rw [if_pos]; exact List.eq_nil_of_length_eq_zero (by omega))
                  have hz2 : ¬ (0 : Int) < (n2 : Int) := by omega
                  go_wp2_with fail
                  go_meet
                  case rel =>
                    refine ⟨_, _, _, rfl, by omega, Lib.hid (by rw [HT.out, List.append_nil]; exact HEL.out), ?_⟩
                    rw [HT.out, List.append_nil]
                    (refine sb_from ?_ hs; repeat constructor)
              case rest =>
                clear hs HEL hE
                obtain ⟨aE, nE, cE, rfl, hE, HEL, hs⟩ := hcut
                have hnq : nE = q + p := by
                  rw [HEL.out, ← HWL.out]
                  unfold wantR rowE
                  by_cases h1 : l = [] <;> by_cases h2 : m = [] <;> simp [h1, h2]
                obtain rfl : nE = q + p := hnq
                have HG : Hid (∀ (w : World) (hs : sat W (own 36 4 (.slice aE (q + p) cE) (q + p) (rowE l 1 0 n1 a1 n1 c1 ++ rowE m 2 n1 k a2 n2 c2).flatten :: rns (.slice a8 (q + p) c8) (wantR l m) :: clP z c' :: H) w), _) := Lib.hid fun w hs => same9_want HWL.out (by omega) (fun r hr => by rcases List.mem_append.1 hr with h | h <;> exact rowE_len r h) (want_rows (fun w' h => HR1.out w' (h.dropN 1)) (fun w' h => HR2.out w' (h.dropN 1)) hll hml HK2.out) hs
                go_wp2_with (first | (go_at_call 9; refine (HG.out _ hs).mono ?_; clear hs; rintro e w ⟨rfl, hs⟩) | (go_at_call 11; refine (HE2.out _ _ (by apply sk_from (hs := hs); repeat constructor)).mono ?_; clear hs; rintro e w ⟨a7, c7, rfl, hs⟩) | (go_at_call 6; refine (known6 hs).mono ?_; clear hs; rintro e w ⟨rfl, hs⟩) | ((with_reducible refine isl ?_); first | ((with_reducible refine wrap hs ?_); clear hs; intro w hs) | ((with_reducible refine wrapn hs ?_); clear hs; intro w hs) | ((with_reducible refine wrapd hs ?_); clear hs; intro w hs)))
                go_ret
                exact ⟨rfl, hs.dropN 4⟩
end Go.Proofs.Ytkldbppldomjhaa
