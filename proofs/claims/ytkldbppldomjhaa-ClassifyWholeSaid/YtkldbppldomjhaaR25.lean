/- Law 16: ClassifyWhole, the walk. -/
import Derived.Test.YtkldbppldomjhaaR24
import Derived.Test.YtkldbppldomjhaaSw
namespace Go.Proofs.Ytkldbppldomjhaa
open Go.RowKit Go.Mem Go.Typed Go.Front Go.Classify
variable {W w : World} {H : List HProp}
theorem rnl_at {W' : World} {l : List Run} {L : List (List Value)} {i : Nat} {x : Run} (hs : sat W (rnl l L :: H) w) (h : l[i]? = some x) : ∃ (aT : Option Addr) (cT : Nat), L[i]? = some (rnC x (.slice aT x.text.length cT)) ∧ ∀ (H' : List HProp) (w' : World), sat W' (rnl l L :: H') w' → Reads w' (.slice aT x.text.length cT) (runes x.text) := by
  obtain ⟨c, hc, h2⟩ := rnl_get hs h
  obtain ⟨aT, cT, e, _⟩ := rnO_reads h2
  subst e
  refine ⟨aT, cT, hc, fun H' w' hw' => ?_⟩
  obtain ⟨c', hc', k2⟩ := rnl_get hw' h
  rw [hc] at hc'
  cases hc'
  obtain ⟨aT', cT', e', r1⟩ := rnO_reads k2
  unfold rnC at e'
  simp only [List.cons.injEq, Value.slice.injEq, true_and, and_true] at e'
  obtain ⟨rfl, rfl⟩ := e'
  exact r1
theorem txs_take0 (l : List Run) : txs (l.take 0) = [] := rfl
theorem txs_take_succ {l : List Run} {j : Nat} {r : Run} (h : l[j]? = some r) : txs (l.take (j + 1)) = txs (l.take j) ++ r.text := by
  rw [List.take_add_one, h, txs_app]
  simp [txs]
theorem txs_take_le (l : List Run) (j : Nat) : (txs (l.take j)).length ≤ (txs l).length := by
  have h : txs l = txs (l.take j) ++ txs (l.drop j) := by rw [← txs_app, List.take_append_drop]
  rw [h, List.length_append]
  omega
theorem chain_at {l : List Run} {j : Nat} {r : Run} {a b : Int} (h : l[j]? = some r) (hc : chain a (l.drop j) b) : r.frm = a ∧ rok r ∧ chain r.to_ (l.drop (j + 1)) b := by
  have hlt : j < l.length := (List.getElem?_eq_some_iff.1 h).1
  have e : l.drop j = r :: l.drop (j + 1) := by
    rw [List.drop_eq_getElem_cons hlt]
    congr 1
    rw [List.getElem?_eq_getElem hlt] at h
    exact Option.some.inj h
  rw [e] at hc
  exact hc
theorem chain_end {l : List Run} {j : Nat} {a b : Int} (h : l.length ≤ j) (hc : chain a (l.drop j) b) : a = b := by
  rw [List.drop_eq_nil_of_le h] at hc
  exact hc
theorem chain_up {l : List Run} {a b : Int} (h : chain a l b) : a ≤ b := by have := chain_len h; omega
attribute [local irreducible] World.setCell World.setCells World.alloc World.drew World.drewN Calls sat cel own blk old wpQuiet wpList tyL ringC rns tyP clP rnl
variable {b z : Nat} {c : Cl}
attribute [local irreducible] lst feedc chain txs World.rangeAt
theorem whole_ok {a : Int} {c : Cl} {out : List Run} {i : Int} {want : List Int} (h : Whole a c out i want) : out.length ≤ want.length ∧ i = a + want.length := by
  obtain ⟨h1, h2⟩ := chain_len h.ch
  rw [h.tx] at h1 h2
  rw [List.length_append] at h1
  exact ⟨by omega, h2⟩
theorem two_runs {z1 z2 m c1 c2 : Nat} {a1 a2 : Option Addr} {l : List Int} {A B : HProp} (hn : l.length = m) (hs : sat W (cel z2 36 [.int .u8 0, .int .u64 0, .int .u64 0, .slice a2 m c2] :: cel z1 36 [.int .u8 0, .int .u64 0, .int .u64 0, .slice a1 m c1] :: own 21 1 (.slice a1 m c1) m (runes l) :: A :: B :: own 21 1 (.slice a2 m c2) m (runes l) :: H) w) :
    sat W (rns (.slice (some ⟨z1, 0, none⟩) 1 1) [⟨0, 0, 0, l⟩] :: rns (.slice (some ⟨z2, 0, none⟩) 1 1) [⟨0, 0, 0, l⟩] :: A :: B :: H) w := by
  have h1 : sat W (cel z2 36 (rnC ⟨0, 0, 0, l⟩ (.slice a2 m c2)) :: own 21 1 (.slice a2 m c2) m (runes l) :: cel z1 36 [.int .u8 0, .int .u64 0, .int .u64 0, .slice a1 m c1] :: own 21 1 (.slice a1 m c1) m (runes l) :: A :: B :: H) w := by refine sb_from ?_ hs; repeat constructor
  have h2 := one_run (x := ⟨0, 0, 0, l⟩) hn h1
  have h3 : sat W (cel z1 36 (rnC ⟨0, 0, 0, l⟩ (.slice a1 m c1)) :: own 21 1 (.slice a1 m c1) m (runes l) :: rns (.slice (some ⟨z2, 0, none⟩) 1 1) [⟨0, 0, 0, l⟩] :: A :: B :: H) w := by refine sb_from ?_ h2; repeat constructor
  have h4 := one_run (x := ⟨0, 0, 0, l⟩) hn h3
  exact h4
set_option maxHeartbeats 2000000 in
set_option maxRecDepth 8000 in
theorem whole3 {life quiet fro step : Int} {a : Option Addr} {n cp : Nat} {l : List Ev} (h1 : 1 ≤ life ∧ life ≤ 1000) (h2 : 1 ≤ quiet ∧ quiet ≤ 1000) (hn : n ≤ 1000) (h3 : 0 ≤ step) (h4 : step ≤ 1000) (h5 : 0 ≤ fro ∧ fro < 4294967296)
    (hwf : ∀ e ∈ l, wfE e) (hc : SR 10 W H a n cp (l.map evL)) (hs : sat W H w) : Calls Try.prog 3 #[.int .i64 life, .int .i64 quiet, .int .u32 fro, .slice a n cp, .int .i64 step] w fun e w' => e = .returned (.bool true) ∧ sat W H w' := by
  have HA := Lib.hid h1
  have HB := Lib.hid h2
  have HC := Lib.hid hc
  have HW := Lib.hid hwf
  have H5 := Lib.hid h5
  have HS := Lib.hid (And.intro h3 h4)
  have g : decide ((1000 : Int) < (n : Int)) = false := decide_eq_false (by omega)
  have g2 : decide (step < 0) = false := decide_eq_false (by omega)
  have g3 : decide ((1000 : Int) < step) = false := decide_eq_false (by omega)
  have ew : IntKind.u64.wrap fro = fro := by have := H5.out; unfold IntKind.wrap; simp [IntKind.signed, IntKind.bits]; omega
  clear h1 h2 hc hwf h5 h3 h4
  go_enter Try.func3, Try.ntmps3
  go_wp2_with (first | (go_at_call 5; refine (new5 HA.out.1 HA.out.2 HB.out.1 HB.out.2 hs).mono ?_; clear hs; rintro e w ⟨z, rfl, hs⟩) | ((with_reducible refine isl ?_); first | ((with_reducible refine wrap hs ?_); clear hs; intro w hs) | ((with_reducible refine wrapn hs ?_); clear hs; intro w hs) | ((with_reducible refine wrapd hs ?_); clear hs; intro w hs)))
  have hs := (rns_nil hs).own_nil 21 1
  go_loopw [50, 13, 14, 15] (fun (i v u x : Value) wr => ∃ (k q m : Nat) (idx : Int) (c : Cl) (out : List Run) (want : List Int) (a1 a2 : Option Addr) (c1 c2 : Nat), k ≤ n ∧ i = .int .i64 (k : Int) ∧ v = .slice a1 q c1 ∧ u = .slice a2 m c2 ∧ x = .int .u64 idx ∧ q ≤ 1000 ∧ m ≤ k ∧ Hid (out.length = q ∧ want.length = m ∧ Whole fro c out idx want) ∧ sat W (own 21 1 (.slice a2 m c2) m (runes want) :: rns (.slice a1 q c1) out :: clP z c :: H) wr) (fun (i _ _ _ : Value) _ => ((n : Int) - intOf i).toNat)
  case atStart => exact ⟨0, 0, 0, fro, _, [], [], none, none, 0, 0, Nat.zero_le _, rfl, rfl, rfl, rfl, Nat.zero_le _, Nat.zero_le _, Lib.hid ⟨rfl, rfl, whole_start rfl rfl ⟨by have := HA.out.1; show 0 < life; omega, HA.out.2, by simp, by simp, by simp, by simp, by simp, by simp, HB.out.1, HB.out.2, by simp [zr]⟩⟩, hs⟩
  case round =>
    clear hs
    obtain ⟨k, q, m, idx, c, out, want, a1, a2, c1, c2, hk, rfl, rfl, rfl, rfl, hq, hm, HI, hs⟩ := hrel
    by_cases hkn : k < n
    · obtain ⟨e, he, b1, o1, rfl, hcc⟩ := HC.out.getm (hs.dropN 3) hkn
      have HCC : Hid (∀ w', sat W H w' → w'.rangeAt b1 (o1 + k * 10) (evL e)) := Lib.hid hcc
      have HE : Hid (wfE e) := Lib.hid (HW.out e (List.mem_of_getElem? he))
      clear hcc he
      obtain ⟨kd, i0, i1, i2, wd, rr, bl, la, fr, wr2⟩ := e
      obtain ⟨i1', i2', i3⟩ := HI.out
      obtain ⟨t, ht⟩ : ∃ t, IntKind.i64.wrap ((k : Int) * step) = t := ⟨_, rfl⟩
      obtain ⟨w1, w2⟩ := whole_ok i3
      obtain ⟨c', o, hf, hI⟩ := whole_step (e := ⟨kd, idx, i1, i2, wd, rr, bl, la, fr, wr2⟩) (t := t) (tick_ok i3.ok).1 i3 rfl
      obtain ⟨p, hp⟩ : ∃ p, o.length = p := ⟨_, rfl⟩
      have HF : Hid (∀ (H : List HProp) (w : World) (hs : sat W (clP z c :: H) w), _) := Lib.hid fun H w hs => feed7 (t := t) (e := ⟨kd, idx, i1, i2, wd, rr, bl, la, fr, wr2⟩) i3.ok HE.out (by have := H5.out; show 0 ≤ idx; omega) (by have := H5.out; show idx < _; omega) hf hs
      have HX : Hid (IntKind.u64.wrap (idx + 1) = idx + 1) := Lib.hid (by have := H5.out; unfold IntKind.wrap; simp [IntKind.signed, IntKind.bits]; omega)
      by_cases hk1 : kd = 1
      · skip
        · subst hk1
          have ht : told ⟨1, idx, i1, i2, wd, rr, bl, la, fr, wr2⟩ = true := rfl
          rw [ht, if_pos rfl, if_pos rfl] at hI
          have HI2 := Lib.hid hI
          obtain ⟨w3, w4⟩ := whole_ok hI
          rw [List.length_append, List.length_append] at w3
          have hqp : q + p ≤ m + 1 := by simp only [List.length_cons, List.length_nil] at w3; omega
          have HL : Hid (out.length = q ∧ o.length = p ∧ want.length = m) := Lib.hid ⟨i1', hp, i2'⟩
          rw [hp] at HF
          clear hI w3 w4 w1 w2 i1' i2' i3 HI hf hp
          go_wp2_with (first | (go_at_call 7; refine (HF.out _ _ (by apply sk_from (hs := hs); repeat constructor)).mono ?_; clear hs; rintro e w ⟨a7, c7, rfl, hs⟩) | (apply apprns (l1 := out) (l2 := o) (by refine sb_from ?_ hs; repeat constructor); exact rfl; exact rfl; exact rfl; exact rfl; exact slty29; omega; clear hs; intro a8 c8 w hs) | (first | ((with_reducible apply app hs.b0); exact rfl; exact rfl; exact rfl; exact rfl; exact slty30; exact rfl; exact rfl; decide; omega; (unfold maxLen; omega); clear hs; intro a9 c9 w hs) | ((with_reducible apply app hs.b1); exact rfl; exact rfl; exact rfl; exact rfl; exact slty30; exact rfl; exact rfl; decide; omega; (unfold maxLen; omega); clear hs; intro a9 c9 w hs) | ((with_reducible apply app hs.b2); exact rfl; exact rfl; exact rfl; exact rfl; exact slty30; exact rfl; exact rfl; decide; omega; (unfold maxLen; omega); clear hs; intro a9 c9 w hs) | ((with_reducible apply app hs.b3); exact rfl; exact rfl; exact rfl; exact rfl; exact slty30; exact rfl; exact rfl; decide; omega; (unfold maxLen; omega); clear hs; intro a9 c9 w hs)) | ((with_reducible refine isl ?_); first | ((with_reducible apply ldsc (cs := evL _)); exact rfl; exact rfl; exact rfl; exact HCC.out _ (hs.dropN 3); exact row33) | ((with_reducible apply stsw hs.b0); exact rfl; exact rfl; exact rfl; exact rfl; exact row33; exact rfl; exact rfl; exact rfl; clear hs; intro w hs) | ((with_reducible apply ldsw hs.b0); exact rfl; exact rfl; exact rfl; exact row33) | ((with_reducible apply ldsw hs.b1); exact rfl; exact rfl; exact rfl; exact row33) | ((with_reducible apply ldsw hs.b2); exact rfl; exact rfl; exact rfl; exact row33) | ((with_reducible apply ldsw hs.b3); exact rfl; exact rfl; exact rfl; exact row33) | ((with_reducible apply ld hs.b0); exact rfl; exact rfl; exact rfl; exact rfl; kernel_rfl) | ((with_reducible apply st hs.b0); exact rfl; exact rfl; exact rfl; exact rfl; exact rfl; exact rfl; kernel_rfl; exact rfl; clear hs; intro w hs) | ((with_reducible apply stc hs.b0); exact rfl; exact rfl; exact rfl; exact rfl; exact rfl; kernel_rfl; exact rfl; clear hs; intro w hs) | ((with_reducible refine wrap hs ?_); clear hs; (first | generalize w.heap.size = z8); intro w hs) | ((with_reducible refine wrap hs ?_); clear hs; intro w hs) | ((with_reducible refine wrapn hs ?_); clear hs; intro w hs) | ((with_reducible refine wrapd hs ?_); clear hs; intro w hs)))
          go_roundw
          case rel => exact ⟨k + 1, q + p, m + 1, idx + 1, c', out ++ o, want ++ [rr], _, _, _, _, by omega, by go_num, rfl, rfl, by rw [HX.out], by omega, by omega, Lib.hid ⟨by rw [List.length_append, HL.out.1, HL.out.2.1], by rw [List.length_append, HL.out.2.2]; rfl, HI2.out⟩, by (rw [← runes_snoc]; refine sb_from ?_ hs; repeat constructor)⟩
          case measure => simp [intOf]; omega
      · by_cases hk2 : kd = 2
        · subst hk2
          have ht : told ⟨2, idx, i1, i2, wd, rr, bl, la, fr, wr2⟩ = true := rfl
          rw [ht, if_pos rfl, if_pos rfl] at hI
          have HI2 := Lib.hid hI
          obtain ⟨w3, w4⟩ := whole_ok hI
          rw [List.length_append, List.length_append] at w3
          have hqp : q + p ≤ m + 1 := by simp only [List.length_cons, List.length_nil] at w3; omega
          have HL : Hid (out.length = q ∧ o.length = p ∧ want.length = m) := Lib.hid ⟨i1', hp, i2'⟩
          rw [hp] at HF
          clear hI w3 w4 w1 w2 i1' i2' i3 HI hf hp
          go_wp2_with (first | (go_at_call 7; refine (HF.out _ _ (by apply sk_from (hs := hs); repeat constructor)).mono ?_; clear hs; rintro e w ⟨a7, c7, rfl, hs⟩) | (apply apprns (l1 := out) (l2 := o) (by refine sb_from ?_ hs; repeat constructor); exact rfl; exact rfl; exact rfl; exact rfl; exact slty29; omega; clear hs; intro a8 c8 w hs) | (first | ((with_reducible apply app hs.b0); exact rfl; exact rfl; exact rfl; exact rfl; exact slty30; exact rfl; exact rfl; decide; omega; (unfold maxLen; omega); clear hs; intro a9 c9 w hs) | ((with_reducible apply app hs.b1); exact rfl; exact rfl; exact rfl; exact rfl; exact slty30; exact rfl; exact rfl; decide; omega; (unfold maxLen; omega); clear hs; intro a9 c9 w hs) | ((with_reducible apply app hs.b2); exact rfl; exact rfl; exact rfl; exact rfl; exact slty30; exact rfl; exact rfl; decide; omega; (unfold maxLen; omega); clear hs; intro a9 c9 w hs) | ((with_reducible apply app hs.b3); exact rfl; exact rfl; exact rfl; exact rfl; exact slty30; exact rfl; exact rfl; decide; omega; (unfold maxLen; omega); clear hs; intro a9 c9 w hs)) | ((with_reducible refine isl ?_); first | ((with_reducible apply ldsc (cs := evL _)); exact rfl; exact rfl; exact rfl; exact HCC.out _ (hs.dropN 3); exact row33) | ((with_reducible apply stsw hs.b0); exact rfl; exact rfl; exact rfl; exact rfl; exact row33; exact rfl; exact rfl; exact rfl; clear hs; intro w hs) | ((with_reducible apply ldsw hs.b0); exact rfl; exact rfl; exact rfl; exact row33) | ((with_reducible apply ldsw hs.b1); exact rfl; exact rfl; exact rfl; exact row33) | ((with_reducible apply ldsw hs.b2); exact rfl; exact rfl; exact rfl; exact row33) | ((with_reducible apply ldsw hs.b3); exact rfl; exact rfl; exact rfl; exact row33) | ((with_reducible apply ld hs.b0); exact rfl; exact rfl; exact rfl; exact rfl; kernel_rfl) | ((with_reducible apply st hs.b0); exact rfl; exact rfl; exact rfl; exact rfl; exact rfl; exact rfl; kernel_rfl; exact rfl; clear hs; intro w hs) | ((with_reducible apply stc hs.b0); exact rfl; exact rfl; exact rfl; exact rfl; exact rfl; kernel_rfl; exact rfl; clear hs; intro w hs) | ((with_reducible refine wrap hs ?_); clear hs; (first | generalize w.heap.size = z8); intro w hs) | ((with_reducible refine wrap hs ?_); clear hs; intro w hs) | ((with_reducible refine wrapn hs ?_); clear hs; intro w hs) | ((with_reducible refine wrapd hs ?_); clear hs; intro w hs)))
          go_roundw
          case rel => exact ⟨k + 1, q + p, m + 1, idx + 1, c', out ++ o, want ++ [rr], _, _, _, _, by omega, by go_num, rfl, rfl, by rw [HX.out], by omega, by omega, Lib.hid ⟨by rw [List.length_append, HL.out.1, HL.out.2.1], by rw [List.length_append, HL.out.2.2]; rfl, HI2.out⟩, by (rw [← runes_snoc]; refine sb_from ?_ hs; repeat constructor)⟩
          case measure => simp [intOf]; omega
        · have ht : told ⟨kd, idx, i1, i2, wd, rr, bl, la, fr, wr2⟩ = false := decide_eq_false (by simp [hk1, hk2])
          rw [ht] at hI
          have HI2 := Lib.hid hI
          obtain ⟨w3, w4⟩ := whole_ok hI
          rw [List.length_append] at w3
          have hqp : q + p ≤ m := by simp only [Bool.false_eq_true, if_false] at w3; omega
          have HL : Hid (out.length = q ∧ o.length = p ∧ want.length = m) := Lib.hid ⟨i1', hp, i2'⟩
          rw [hp] at HF
          have q1 : (kd == 1) = false := by simpa using hk1
          have q2 : (kd == 2) = false := by simpa using hk2
          have q3 : decide (kd = 1) = false := decide_eq_false hk1
          have q4 : decide (kd = 2) = false := decide_eq_false hk2
          clear hI w3 w4 w1 w2 i1' i2' i3 HI hf hp
          go_wp2_with (first | (go_at_call 7; refine (HF.out _ _ (by apply sk_from (hs := hs); repeat constructor)).mono ?_; clear hs; rintro e w ⟨a7, c7, rfl, hs⟩) | (apply apprns (l1 := out) (l2 := o) (by refine sb_from ?_ hs; repeat constructor); exact rfl; exact rfl; exact rfl; exact rfl; exact slty29; omega; clear hs; intro a8 c8 w hs) | (first | ((with_reducible apply app hs.b0); exact rfl; exact rfl; exact rfl; exact rfl; exact slty30; exact rfl; exact rfl; decide; omega; (unfold maxLen; omega); clear hs; intro a9 c9 w hs) | ((with_reducible apply app hs.b1); exact rfl; exact rfl; exact rfl; exact rfl; exact slty30; exact rfl; exact rfl; decide; omega; (unfold maxLen; omega); clear hs; intro a9 c9 w hs) | ((with_reducible apply app hs.b2); exact rfl; exact rfl; exact rfl; exact rfl; exact slty30; exact rfl; exact rfl; decide; omega; (unfold maxLen; omega); clear hs; intro a9 c9 w hs) | ((with_reducible apply app hs.b3); exact rfl; exact rfl; exact rfl; exact rfl; exact slty30; exact rfl; exact rfl; decide; omega; (unfold maxLen; omega); clear hs; intro a9 c9 w hs)) | ((with_reducible refine isl ?_); first | ((with_reducible apply ldsc (cs := evL _)); exact rfl; exact rfl; exact rfl; exact HCC.out _ (hs.dropN 3); exact row33) | ((with_reducible apply stsw hs.b0); exact rfl; exact rfl; exact rfl; exact rfl; exact row33; exact rfl; exact rfl; exact rfl; clear hs; intro w hs) | ((with_reducible apply ldsw hs.b0); exact rfl; exact rfl; exact rfl; exact row33) | ((with_reducible apply ldsw hs.b1); exact rfl; exact rfl; exact rfl; exact row33) | ((with_reducible apply ldsw hs.b2); exact rfl; exact rfl; exact rfl; exact row33) | ((with_reducible apply ldsw hs.b3); exact rfl; exact rfl; exact rfl; exact row33) | ((with_reducible apply ld hs.b0); exact rfl; exact rfl; exact rfl; exact rfl; kernel_rfl) | ((with_reducible apply st hs.b0); exact rfl; exact rfl; exact rfl; exact rfl; exact rfl; exact rfl; kernel_rfl; exact rfl; clear hs; intro w hs) | ((with_reducible apply stc hs.b0); exact rfl; exact rfl; exact rfl; exact rfl; exact rfl; kernel_rfl; exact rfl; clear hs; intro w hs) | ((with_reducible refine wrap hs ?_); clear hs; (first | generalize w.heap.size = z8); intro w hs) | ((with_reducible refine wrap hs ?_); clear hs; intro w hs) | ((with_reducible refine wrapn hs ?_); clear hs; intro w hs) | ((with_reducible refine wrapd hs ?_); clear hs; intro w hs)))
          go_roundw
          case rel => exact ⟨k + 1, q + p, m, idx, c', out ++ o, want, _, _, _, _, by omega, by go_num, rfl, rfl, rfl, by omega, by omega, Lib.hid ⟨by rw [List.length_append, HL.out.1, HL.out.2.1], HL.out.2.2, HI2.out⟩, by (refine sb_from ?_ hs; repeat constructor)⟩
          case measure => simp [intOf]; omega
    · have hge : ¬ (k : Int) < (n : Int) := by omega
      obtain ⟨i1, i2, i3⟩ := HI.out
      obtain ⟨w1, w2⟩ := whole_ok i3
      obtain ⟨tn, htn⟩ : ∃ tn, c.run.text.length = tn := ⟨_, rfl⟩
      have HTN := Lib.hid htn
      have ht9 := i3.op.ln
      have HO : Hid (∀ (H : List HProp) (w : World) (hs : sat W (clP z c :: H) w), _) := Lib.hid fun H w hs => open8 htn (by omega) hs
      clear i1 i2 i3 w1 w2 htn ht9 hkn
      go_upto_region 16 with fail
      go_cut [18, 19] (fun v18 v19 wx => ∃ (z8 : Nat) (bb : Bool) (a3 : Option Addr) (c3 : Nat), v18 = .pointer (some ⟨z8, 0, none⟩) ∧ v19 = .bool bb ∧ ((bb = false ∧ tn = 0) ∨ (bb = true ∧ tn ≠ 0)) ∧ (bb = false → sat W (rns (.slice a1 q c1) out :: own 21 1 (.slice a2 m c2) m (runes want) :: H) wx) ∧ (bb = true → sat W (cel z8 36 (rnC c.run (.slice a3 tn c3)) :: own 21 1 (.slice a3 tn c3) tn (runes c.run.text) :: rns (.slice a1 q c1) out :: own 21 1 (.slice a2 m c2) m (runes want) :: H) wx))
      case first =>
        go_wp2_with (first | (go_at_call 8; refine (HO.out _ _ (by apply sk_from (hs := hs); repeat constructor)).mono ?_; clear hs; rintro e w (⟨hz, rfl, hs⟩ | ⟨hz, a3, c3, rfl, hs⟩)) | ((with_reducible refine isl ?_); first | ((with_reducible apply stsw hs.b0); exact rfl; exact rfl; exact rfl; exact rfl; exact row36; exact rfl; exact rfl; exact rfl; clear hs; intro w hs) | ((with_reducible refine wrap hs ?_); clear hs; (first | generalize w.heap.size = z8); intro w hs) | ((with_reducible refine wrap hs ?_); clear hs; intro w hs) | ((with_reducible refine wrapn hs ?_); clear hs; intro w hs) | ((with_reducible refine wrapd hs ?_); clear hs; intro w hs)))
        · go_meet
          case rel => exact ⟨z8, false, none, 0, rfl, rfl, .inl ⟨rfl, hz⟩, (fun _ => by refine sb_from ?_ hs; repeat constructor), (fun h => by cases h)⟩
        · go_meet
          case rel => exact ⟨z8, true, a3, c3, rfl, rfl, .inr ⟨rfl, hz⟩, (fun h => by cases h), (fun _ => by unfold rnC; refine sb_from ?_ hs; repeat constructor)⟩
      case rest =>
        clear hs
        obtain ⟨z8, bb, a3, c3, rfl, rfl, hbb, hb1, hb2⟩ := hcut
        have HB1 := Lib.hid hb1
        have HB2 := Lib.hid hb2
        have HBB := Lib.hid hbb
        clear hb1 hb2 hbb
        go_upto_if 86 with fail
        try simp only [Act.put, List.setIfInBounds_toArray, List.set_cons_succ, List.set_cons_zero]
        go_cut [13] (fun v wx => ∃ (q : Nat) (a1 : Option Addr) (c1 : Nat) (R : List Run), v = .slice a1 q c1 ∧ q ≤ 1001 ∧ Hid (R.length = q ∧ R = out ++ opn c) ∧ sat W (rns (.slice a1 q c1) R :: own 21 1 (.slice a2 m c2) m (runes want) :: H) wx)
        case first =>
          cases bb with
          | false =>
            have hs := HB1.out rfl
            go_wp2_with fail
            go_meet
            case rel => exact ⟨q, a1, c1, out, rfl, by omega, Lib.hid ⟨HI.out.1, by
              have h0 : c.run.text = [] := by
                rcases HBB.out with ⟨_, h⟩ | ⟨h, _⟩
                · exact List.eq_nil_of_length_eq_zero (by rw [HTN.out]; exact h)
                · cases h
              simp [opn, h0]⟩, hs⟩
          | true =>
            have hs := HB2.out rfl
            unfold rnC at hs
            have HO2 : Hid (out.length = q) := Lib.hid HI.out.1
            go_wp2_with (first | (apply apprns (l1 := out) (l2 := [c.run]) (by have h1 := one_run (x := c.run) HTN.out (H := rns (.slice a1 q c1) out :: own 21 1 (.slice a2 m c2) m (runes want) :: H) (by unfold rnC; refine sb_from ?_ hs; repeat constructor); refine sb_from ?_ h1; repeat constructor); exact rfl; exact rfl; exact rfl; exact rfl; exact slty29; omega; clear hs; intro a8 c8 w hs) | ((with_reducible refine isl ?_); first | ((with_reducible apply ldsw hs.b0); exact rfl; exact rfl; exact rfl; exact row36) | ((with_reducible apply ldsw hs.b1); exact rfl; exact rfl; exact rfl; exact row36) | ((with_reducible apply ldsw hs.b2); exact rfl; exact rfl; exact rfl; exact row36) | ((with_reducible refine wrap hs ?_); clear hs; (first | generalize w.heap.size = z9); intro w hs) | ((with_reducible refine wrap hs ?_); clear hs; intro w hs) | ((with_reducible refine wrapn hs ?_); clear hs; intro w hs) | ((with_reducible refine wrapd hs ?_); clear hs; intro w hs)))
            go_meet
            case rel => exact ⟨q + 1, a8, c8, out ++ [c.run], rfl, by omega, Lib.hid ⟨by rw [List.length_append, HO2.out]; rfl, by
              have h0 : c.run.text ≠ [] := by
                rcases HBB.out with ⟨h, _⟩ | ⟨_, h⟩
                · cases h
                · intro h0; rw [← HTN.out, h0] at h; exact h rfl
              simp [opn, h0]⟩, (by refine sb_from ?_ hs; repeat constructor)⟩
        case rest =>
          obtain ⟨q3, a4, c4, R, rfl, hq3, HR, hs⟩ := hcut
          have HCH : Hid (chain fro R idx ∧ txs R = want) := Lib.hid (by rw [HR.out.2]; exact ⟨HI.out.2.2.ch, HI.out.2.2.tx⟩)
          have HRL : Hid (R.length = q3) := Lib.hid HR.out.1
          have HWN : Hid (want.length = m) := Lib.hid HI.out.2.1
          have hidx := (whole_ok HI.out.2.2).2
          have HID : Hid (0 ≤ idx ∧ idx < 9223372036854775808) := Lib.hid (by have := H5.out; rw [HI.out.2.1] at hidx; omega)
          clear HI HR HB1 HB2 HBB HO HTN hidx
          obtain ⟨L, hs⟩ := rns_open hs
          rw [HRL.out] at hs
          have HL6 : Hid (All6 4 L) := Lib.hid fun r hr => ((rnl_rows hs.b1).2 r hr).1
          have hs := hs.own_nil 21 1
          go_wp2_with fail
          go_loopw [95, 20, 21] (fun (i v u : Value) wr => ∃ (j tn : Nat) (x : Int) (a5 : Option Addr) (c5 : Nat), j ≤ q3 ∧ i = .int .i64 (j : Int) ∧ v = .int .u64 x ∧ u = .slice a5 tn c5 ∧ tn ≤ 1000 ∧ Hid ((txs (R.take j)).length = tn ∧ chain x (R.drop j) idx) ∧ sat W (own 21 1 (.slice a5 tn c5) tn (runes (txs (R.take j))) :: own 36 4 (.slice a4 q3 c4) q3 L.flatten :: rnl R L :: own 21 1 (.slice a2 m c2) m (runes want) :: H) wr) (fun (i _ _ : Value) _ => ((q3 : Int) - intOf i).toNat)
          case atStart => exact ⟨0, 0, fro, none, 0, Nat.zero_le _, rfl, rfl, rfl, Nat.zero_le _, Lib.hid ⟨by rw [txs_take0]; rfl, HCH.out.1⟩, by rw [txs_take0]; exact hs⟩
          case round =>
            clear hs
            obtain ⟨j, tn, x, a5, c5, hj, rfl, rfl, rfl, htn, HJ, hs⟩ := hrel
            by_cases hjq : j < q3
            · obtain ⟨r, hr⟩ : ∃ r, R[j]? = some r := ⟨_, List.getElem?_eq_getElem (by rw [HRL.out]; exact hjq)⟩
              obtain ⟨aT, cT, hLJ, hrd⟩ := rnl_at (W' := W) hs.b2 hr
              obtain ⟨c1, ⟨c2', c3', c4', c5', c6'⟩, c7'⟩ := chain_at hr HJ.out.2
              have hup := chain_up c7'
              have htk := txs_take_succ hr
              have hle := txs_take_le R (j + 1)
              rw [HCH.out.2, HWN.out, htk, List.length_append, HJ.out.1] at hle
              obtain ⟨kd, fr, tv, tx⟩ := r
              simp only at c1 c2' c3' c4' c5' c6' c7' hrd hLJ htk hle hup
              subst c1
              obtain ⟨tl, htl⟩ : ∃ tl, tx.length = tl := ⟨_, rfl⟩
              rw [htl] at hLJ hrd c3' c4' hle
              have htl0 : 0 < tl := by rw [← htl]; exact List.length_pos_iff.2 c2'
              have HR1 : Hid (∀ (H' : List HProp) (w' : World), sat W (rnl R L :: H') w' → Reads w' (.slice aT tl cT) (runes tx)) := Lib.hid hrd
              have HR2 : Hid (∀ u ∈ runes tx, u.oneCell' = true) := Lib.hid (by unfold runes; exact ints_ok)
              have HR3 : Hid ((runes tx).length = tl) := Lib.hid (by rw [runes_len, htl])
              have HLJ := Lib.hid hLJ
              have HTO := Lib.hid c3'
              have HTK := Lib.hid htk
              have HC7 := Lib.hid c7'
              have HTL := Lib.hid htl
              have HK := Lib.hid (And.intro c5' c6')
              have hid := HID.out
              have q1 : decide (tv ≤ fr) = false := decide_eq_false (by omega)
              have q2 : IntKind.u64.wrap (tv - fr) = (tl : Int) := by rw [c3']; unfold IntKind.wrap; simp [IntKind.signed, IntKind.bits]; omega
              have q3' : decide ((200 : Int) < (tl : Int)) = false := decide_eq_false (by omega)
              have q4 : (kd == 0) = false := by simp; omega
              have q5 : decide ((3 : Int) < kd) = false := decide_eq_false (by omega)
              obtain ⟨g0, rfl⟩ : ∃ g0, a4 = some ⟨g0, 0, none⟩ := by
                rcases hs.b1.own_cases.2 with ⟨_, h0, _⟩ | ⟨g5, _, _, e, _⟩
                · omega
                · cases e; exact ⟨g5, rfl⟩
              clear hrd hLJ c3' c2' c5' c6' c7' htk hr htl hid hup
              go_wp2_with (first | (first | ((with_reducible apply apprm hs.b0); exact rfl; exact rfl; exact rfl; exact rfl; exact slty30; exact HR1.out _ _ (by refine sb_from ?_ hs; repeat constructor); exact HR2.out; exact HR3.out; omega; (unfold maxLen; omega); clear hs; intro a7 c7 w hs) | ((with_reducible apply apprm hs.b1); exact rfl; exact rfl; exact rfl; exact rfl; exact slty30; exact HR1.out _ _ (by refine sb_from ?_ hs; repeat constructor); exact HR2.out; exact HR3.out; omega; (unfold maxLen; omega); clear hs; intro a7 c7 w hs) | ((with_reducible apply apprm hs.b2); exact rfl; exact rfl; exact rfl; exact rfl; exact slty30; exact HR1.out _ _ (by refine sb_from ?_ hs; repeat constructor); exact HR2.out; exact HR3.out; omega; (unfold maxLen; omega); clear hs; intro a7 c7 w hs) | ((with_reducible apply apprm hs.b3); exact rfl; exact rfl; exact rfl; exact rfl; exact slty30; exact HR1.out _ _ (by refine sb_from ?_ hs; repeat constructor); exact HR2.out; exact HR3.out; omega; (unfold maxLen; omega); clear hs; intro a7 c7 w hs)) | ((with_reducible refine isl ?_); first | ((with_reducible apply ldor hs.b1); exact rfl; exact rfl; exact rfl; exact HLJ.out; exact HL6.out; exact row36) | ((with_reducible apply stsw hs.b0); exact rfl; exact rfl; exact rfl; exact rfl; exact row36; exact rfl; exact rfl; exact rfl; clear hs; intro w hs) | ((with_reducible apply ld hs.b0); exact rfl; exact rfl; exact rfl; exact rfl; kernel_rfl) | ((with_reducible apply ld hs.b1); exact rfl; exact rfl; exact rfl; exact rfl; kernel_rfl) | ((with_reducible apply ld hs.b2); exact rfl; exact rfl; exact rfl; exact rfl; kernel_rfl) | ((with_reducible apply ld hs.b3); exact rfl; exact rfl; exact rfl; exact rfl; kernel_rfl) | ((with_reducible apply st hs.b0); exact rfl; exact rfl; exact rfl; exact rfl; exact rfl; exact rfl; kernel_rfl; exact rfl; clear hs; intro w hs) | ((with_reducible apply st hs.b1); exact rfl; exact rfl; exact rfl; exact rfl; exact rfl; exact rfl; kernel_rfl; exact rfl; clear hs; intro w hs) | ((with_reducible apply st hs.b2); exact rfl; exact rfl; exact rfl; exact rfl; exact rfl; exact rfl; kernel_rfl; exact rfl; clear hs; intro w hs) | ((with_reducible apply st hs.b3); exact rfl; exact rfl; exact rfl; exact rfl; exact rfl; exact rfl; kernel_rfl; exact rfl; clear hs; intro w hs) | ((with_reducible apply stc hs.b0); exact rfl; exact rfl; exact rfl; exact rfl; exact rfl; kernel_rfl; exact rfl; clear hs; intro w hs) | ((with_reducible apply stc hs.b1); exact rfl; exact rfl; exact rfl; exact rfl; exact rfl; kernel_rfl; exact rfl; clear hs; intro w hs) | ((with_reducible apply stc hs.b2); exact rfl; exact rfl; exact rfl; exact rfl; exact rfl; kernel_rfl; exact rfl; clear hs; intro w hs) | ((with_reducible apply stc hs.b3); exact rfl; exact rfl; exact rfl; exact rfl; exact rfl; kernel_rfl; exact rfl; clear hs; intro w hs) | ((with_reducible refine wrap hs ?_); clear hs; (first | generalize w.heap.size = z9); intro w hs) | ((with_reducible refine wrap hs ?_); clear hs; intro w hs) | ((with_reducible refine wrapn hs ?_); clear hs; intro w hs) | ((with_reducible refine wrapd hs ?_); clear hs; intro w hs)))
              go_roundw
              case rel =>
                refine ⟨j + 1, tn + tl, tv, _, _, by omega, by go_num, rfl, rfl, by omega, Lib.hid ⟨by rw [HTK.out, List.length_append, HJ.out.1, HTL.out], HC7.out⟩, ?_⟩
                rw [HTK.out, show runes (txs (R.take j) ++ tx) = runes (txs (R.take j)) ++ runes tx from by unfold runes; rw [List.map_append]]
                (refine sb_from ?_ hs; repeat constructor)
              case measure => simp [intOf]; omega
            · have hge2 : ¬ (j : Int) < (q3 : Int) := by omega
              have hx : x = idx := chain_end (by rw [HRL.out]; omega) HJ.out.2
              subst hx
              have ht : txs (R.take j) = want := by rw [List.take_of_length_le (by rw [HRL.out]; omega), HCH.out.2]
              obtain rfl : tn = m := by rw [← HJ.out.1, ht, HWN.out]
              rw [ht] at hs
              clear hjq ht
              go_wp2_with (first | (go_at_call 9; refine (same9 (n := 1) (l := [⟨0, 0, 0, want⟩]) rfl (Nat.le_of_ble_eq_true rfl) (two_runs HWN.out hs)).mono ?_; clear hs; rintro e w ⟨rfl, hs⟩) | (go_at_call 6; refine (known6 hs).mono ?_; clear hs; rintro e w ⟨rfl, hs⟩) | ((with_reducible refine isl ?_); first | ((with_reducible refine wrap hs ?_); clear hs; (first | (have _t := z8; clear _t; generalize w.heap.size = z9) | generalize w.heap.size = z8); intro w hs) | ((with_reducible refine wrap hs ?_); clear hs; intro w hs) | ((with_reducible refine wrapn hs ?_); clear hs; intro w hs) | ((with_reducible refine wrapd hs ?_); clear hs; intro w hs)))
              go_ret
              exact ⟨rfl, hs.dropN 4⟩
end Go.Proofs.Ytkldbppldomjhaa
