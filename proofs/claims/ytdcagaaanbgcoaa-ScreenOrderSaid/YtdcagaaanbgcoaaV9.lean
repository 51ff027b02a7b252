/- Law 6: Insert, Delete. -/
import Derived.Test.YtdcagaaanbgcoaaV7
import Derived.Test.YtdcagaaanbgcoaaSf
namespace Go.Proofs.Ytdcagaaanbgcoaa
open Go.RowKit Go.Mem Go.Cells
variable {W w : World} {H : List HProp}
/-- A row of which so many cells from a place on are blank. -/
structure IQ (B : PC) (ps : List PC) (c m q i : Nat) (qs : List PC) : Prop where
  len : qs.length = c + m + q
  pre : qs.take c = ps.take c
  mid : (qs.drop c).take i = List.replicate i B
  suf : qs.drop (c + m) = (ps.drop c).take q
theorem IQ.start {B : PC} {ps : List PC} {c m q : Nat} (h : ps.length = c + m + q) : IQ B ps c m q 0 (ps.take (c + m) ++ (ps.drop c).take q) := by
  have e1 : (ps.take (c + m)).length = c + m := by rw [List.length_take]; omega
  have e2 : ((ps.drop c).take q).length = q := by rw [List.length_take, List.length_drop]; omega
  refine ⟨by rw [List.length_append, e1, e2], ?_, rfl, ?_⟩
  · rw [List.take_append_of_le_length (by omega), List.take_take, Nat.min_eq_left (by omega)]
  · rw [List.drop_append_of_le_length (by omega), List.drop_eq_nil_of_le (by omega), List.nil_append]
theorem IQ.next {B : PC} {ps : List PC} {c m q i : Nat} {qs : List PC} (h : IQ B ps c m q i qs) (hi : i < m) : IQ B ps c m q (i + 1) (qs.set (c + i) B) := by
  obtain ⟨h1, h2, h3, h4⟩ := h
  refine ⟨by rw [List.length_set, h1], ?_, ?_, ?_⟩
  · rw [List.take_set, List.set_eq_of_length_le (by rw [List.length_take]; omega), h2]
  · rw [List.drop_set, if_neg (by omega), show c + i - c = i from by omega, List.take_set, List.take_add_one, List.replicate_succ', ← h3]
    have hlt : i < (qs.drop c).length := by rw [List.length_drop]; omega
    rw [List.getElem?_eq_getElem hlt]
    simp only [Option.toList]
    have e : ((qs.drop c).take i).length = i := by rw [List.length_take]; omega
    have := set_app_cons2 ((qs.drop c).take i) (qs.drop c)[i] B []
    rw [e] at this
    exact this
  · rw [List.drop_set, if_pos (by omega), h4]
/-- A row of which so many cells at its end are blank. -/
structure JQ (B : PC) (ps : List PC) (c m q i : Nat) (qs : List PC) : Prop where
  len : qs.length = c + q + m
  pre : qs.take (c + q) = ps.take c ++ ps.drop (c + m)
  mid : (qs.drop (c + q)).take i = List.replicate i B
theorem JQ.start {B : PC} {ps : List PC} {c m q : Nat} (h : ps.length = c + m + q) : JQ B ps c m q 0 (ps.take c ++ ps.drop (c + m) ++ ps.drop (c + q)) := by
  have e1 : (ps.take c ++ ps.drop (c + m)).length = c + q := by rw [List.length_append, List.length_take, List.length_drop]; omega
  refine ⟨by rw [List.length_append, e1, List.length_drop]; omega, ?_, rfl⟩
  rw [List.take_append_of_le_length (by omega), List.take_of_length_le (by omega)]
theorem JQ.next {B : PC} {ps : List PC} {c m q i : Nat} {qs : List PC} (h : JQ B ps c m q i qs) (hi : i < m) : JQ B ps c m q (i + 1) (qs.set (c + q + i) B) := by
  obtain ⟨h1, h2, h3⟩ := h
  refine ⟨by rw [List.length_set, h1], ?_, ?_⟩
  · rw [List.take_set, List.set_eq_of_length_le (by rw [List.length_take]; omega), h2]
  · rw [List.drop_set, if_neg (by omega), show c + q + i - (c + q) = i from by omega, List.take_set, List.take_add_one, List.replicate_succ', ← h3]
    have hlt : i < (qs.drop (c + q)).length := by rw [List.length_drop]; omega
    rw [List.getElem?_eq_getElem hlt]
    simp only [Option.toList]
    have e : ((qs.drop (c + q)).take i).length = i := by rw [List.length_take]; omega
    have := set_app_cons2 ((qs.drop (c + q)).take i) (qs.drop (c + q))[i] B []
    rw [e] at this
    exact this
theorem JQ.fin {B : PC} {ps : List PC} {c m q : Nat} {qs : List PC} (h : JQ B ps c m q m qs) : qs = ps.take c ++ ps.drop (c + m) ++ List.replicate m B := by
  obtain ⟨h1, h2, h3⟩ := h
  have e : qs = qs.take (c + q) ++ qs.drop (c + q) := (List.take_append_drop _ _).symm
  rw [e, h2, ← h3, List.take_of_length_le (l := qs.drop (c + q)) (by rw [List.length_drop]; omega)]
theorem IQ.fin {B : PC} {ps : List PC} {c m q : Nat} {qs : List PC} (h : IQ B ps c m q m qs) : qs = ps.take c ++ List.replicate m B ++ (ps.drop c).take q := by
  obtain ⟨h1, h2, h3, h4⟩ := h
  have e : qs = qs.take c ++ ((qs.drop c).take m ++ qs.drop (c + m)) := by
    rw [← List.drop_drop, List.take_append_drop, List.take_append_drop]
  rw [e, h2, h3, h4, List.append_assoc]
attribute [local irreducible] rowTy oneTy World.setCell World.setCells World.alloc World.drew World.drewN Calls sat cel own blk old wpQuiet wpList cmb cmb1 rwP cls rws partC md
end Go.Proofs.Ytdcagaaanbgcoaa
namespace Go.Proofs.Ytdcagaaanbgcoaa
open Go.RowKit Go.Mem Go.Cells
variable {W w : World} {H : List HProp}
attribute [local irreducible] rowTy oneTy World.setCell World.setCells World.alloc World.drew World.drewN Calls sat cel own blk old wpQuiet wpList cmb cmb1 rwP cls rws partC md
def resG (l : List C) (cols : Nat) : List C := md 0 (if cols ≤ l.length then l.take cols else l ++ List.replicate (cols - l.length) (bC At.z))
theorem resize26_no {b n : Nat} {l : List C} {k : Int} (hn : l.length = n) (h0 : 0 < n) (h : ¬ (1 ≤ k ∧ k ≤ 512)) (hs : sat W (rwP 96 b l :: H) w) : Calls Try.prog 47 #[.pointer (some ⟨b, 0, none⟩), .int .i64 k] w fun e w' => e = .returned (.int .i64 2) ∧ sat W (rwP 96 b l :: H) w' := by
  have HN0 := Lib.hid hn
  have HD := Lib.hid (show decide (1 ≤ k ∧ k ≤ 512) = false from decide_eq_false h)
  clear hn h
  go_enter Try.func47, Try.ntmps47
  go_wp2_with (first | (go_at_call 58; refine (ready40 HN0.out h0 (by apply sk_from (hs := hs); repeat constructor)).mono ?_; clear hs; rintro e w ⟨rfl, hs⟩) | (go_at_call 66; refine (mayCols28 hs).mono ?_; clear hs; rintro e w ⟨rfl, hs⟩; rw [HD.out]))
  go_ret
  exact ⟨rfl, hs⟩
def lenAt (b : Nat) (w : World) : Nat := match w.cell? ⟨b, 0, none⟩ with | some (.slice _ n _) => n | _ => 0
theorem lenAt_is {b T n p : Nat} {a : Option Addr} (hs : sat W (cel b T [.slice a n p] :: H) w) : lenAt b w = n := by
  unfold lenAt
  rw [hs.cel_cell (i := 0) rfl]
theorem resize26_ok {b n m : Nat} {l : List C} (hn : l.length = n) (h0 : 0 < n) (h512 : n ≤ 512) (hm0 : 1 ≤ m) (hm : m ≤ 512) (hs : sat W (rwP 96 b l :: H) w) : Calls Try.prog 47 #[.pointer (some ⟨b, 0, none⟩), .int .i64 (m : Int)] w fun e w' => e = .returned (.int .i64 0) ∧ sat W (rwP 96 b (resG l m) :: H) w' := by
  have HN0 := Lib.hid hn
  have HD := Lib.hid (show decide (1 ≤ (m : Int) ∧ (m : Int) ≤ 512) = true from decide_eq_true (by omega))
  clear hn
  go_enter Try.func47, Try.ntmps47
  go_wp2_with (first | (go_at_call 58; refine (ready40 HN0.out h0 (by apply sk_from (hs := hs); repeat constructor)).mono ?_; clear hs; rintro e w ⟨rfl, hs⟩) | (go_at_call 66; refine (mayCols28 hs).mono ?_; clear hs; rintro e w ⟨rfl, hs⟩; rw [HD.out]))
  obtain ⟨ps, a9, p9, hps, hs⟩ := rw_open HN0.out hs
  have HP : Hid (ps.length = n ∧ ps.map (·.c) = l) := Lib.hid ⟨by rw [← HN0.out, ← hps, List.length_map], hps⟩
  clear hps
  go_loopw [] (fun wr => ∃ (k j : Nat) (a : Option Addr) (p : Nat), k = n + j ∧ (j = 0 ∨ k ≤ m) ∧ sat W (cel b 96 [.slice a k p] :: own 110 6 (.slice a k p) k (rws (ps ++ List.replicate j (PC.bl At.z))).flatten :: cmb ps :: H) wr) (fun wr => m - lenAt b wr)
  case atStart => exact ⟨n, 0, a9, p9, rfl, .inl rfl, by rw [List.replicate_zero, List.append_nil]; exact hs⟩
  case round =>
    clear hs a9 p9
    obtain ⟨k, j, a, p, hk, hj, hs⟩ := hrel
    have HK := Lib.hid hk
    have HLN : Hid (lenAt b wr = k) := Lib.hid (lenAt_is hs)
    have hk1 : 1 ≤ k := by omega
    clear hk
    by_cases hkm : k < m
    · have hkm2 : (k : Int) < (m : Int) := by omega
      have HS : Hid ((rws (ps ++ List.replicate j (PC.bl At.z))).flatten ++ cV (bC At.z) (.slice none 0 0) = (rws (ps ++ List.replicate (j + 1) (PC.bl At.z))).flatten) := Lib.hid (by
        rw [rws_app, List.flatten_append, List.append_assoc, rws_bl_snoc, ← List.flatten_append, ← rws_app])
      go_wp2_with (((with_reducible refine isl ?_); first | ((with_reducible apply ldx); exact rfl; exact rfl; exact rfl; exact hs.b0; exact rfl; kernel_rfl)))
      refine L_begin 11 11 [cel b 96 [.slice a k p]] [cel b 96 [.slice a k p]] hs (fun _ h => by (refine sb_from ?_ h; repeat constructor)) (fun _ h => by (refine sb_from ?_ h; repeat constructor)) (by kernel_rfl) ?_; clear hs; intro w hs hd
      refine L_reads2 [0, 1, 2, 3, 4, 5] #[true, true, true, true, true, true, false, false, false, false, false, false] (fuel := 6) hd (by kernel_rfl) (fun _ _ _ _ _ h => h) ?_; clear hd; intro X f hne hf hcl hd; simp only [nths, nth, List.append_nil, List.nil_append, List.cons_append]; (try simp only [Act.put, List.setIfInBounds_toArray, List.set_cons_succ, List.set_cons_zero]); (repeat ((first | ((with_reducible apply ldqx); exact rfl; exact rfl; exact rfl; exact fun x => (hf x).b0; exact rfl; kernel_rfl) | go_big_quiet_step (fail)); (try simp only [Act.put, List.setIfInBounds_toArray, List.set_cons_succ, List.set_cons_zero]))); refine wpQuiet_nil ?_; clear hcl hf hne f X
      refine L_each [6] (by kernel_rfl) ⟨?_, trivial⟩
      simp only [nth]
      go_wp2_with ((go_at_call 67; refine (blank30 (a := At.z) hs).mono ?_; clear hs; rintro e w ⟨rfl, hs⟩))
      (refine on_now hs ?_); clear hs; intro hs
      refine L_on [cel b 96 [.slice a k p]] [cel b 96 [.slice a k p]] #[true, true, true, true, true, true, true, false, false, false, false, false] (fuel := 5) hs (by kernel_rfl) (fun _ h => h) (fun _ h => h) (fun _ => by (refine sb_from ?_ hs; repeat constructor)) (fun _ => by (refine sb_from ?_ hs; repeat constructor)) ?_; clear hd hs; intro hd hs
      refine L_each [7] (by kernel_rfl) ⟨?_, trivial⟩
      simp only [nth]
      go_wp2_with (fail)
      (refine on_now hs.made ?_); clear hs; intro hs
      refine L_on [cel b 96 [.slice a k p]] [cel b 96 [.slice a k p]] #[true, true, true, true, true, true, true, true, false, false, false, false] (fuel := 4) hs (by kernel_rfl) (fun _ h => h) (fun _ h => h) (fun _ => by (refine sb_from ?_ hs; repeat constructor)) (fun _ => by (refine sb_from ?_ hs; repeat constructor)) ?_; clear hd hs; intro hd hs; (try generalize World.alloc w _ = w1 at hs ⊢); (try generalize w.heap.size = z8 at hs ⊢)
      refine L_each [8] (by kernel_rfl) ⟨?_, trivial⟩
      simp only [nth]
      go_wp2_with ((((with_reducible apply app (T' := 110) hs.b2); exact rfl; exact rfl; exact rfl; exact rfl; exact slty37; exact rfl; exact rfl; decide; omega; (unfold maxLen; omega); clear hs; intro a9 c9 w hs)))
      (refine on_now hs ?_); clear hs; intro hs
      refine L_on [cel b 96 [.slice a k p]] [cel b 96 [.slice a k p]] #[true, true, true, true, true, true, true, true, true, false, false, false] (fuel := 3) hs (by kernel_rfl) (fun _ h => h) (fun _ h => h) (fun _ => by (refine sb_from ?_ hs; repeat constructor)) (fun _ => by (refine sb_from ?_ hs; repeat constructor)) ?_; clear hd hs; intro hd hs
      refine L_each [9] (by kernel_rfl) ⟨?_, trivial⟩
      simp only [nth]
      go_wp2_with (fail)
      (refine on_now hs ?_); clear hs; intro hs
      refine L_on [cel b 96 [.slice a k p]] [cel b 96 [.slice a k p]] #[true, true, true, true, true, true, true, true, true, true, false, false] (fuel := 2) hs (by kernel_rfl) (fun _ h => h) (fun _ h => h) (fun _ => by (refine sb_from ?_ hs; repeat constructor)) (fun _ => by (refine sb_from ?_ hs; repeat constructor)) ?_; clear hd hs; intro hd hs
      refine L_reads2 [10] #[true, true, true, true, true, true, true, true, true, true, true, false] (fuel := 1) hd (by kernel_rfl) (fun _ _ _ _ _ h => h) ?_; clear hd; intro X f hne hf hcl hd; simp only [nths, nth, List.append_nil, List.nil_append, List.cons_append]; (try simp only [Act.put, List.setIfInBounds_toArray, List.set_cons_succ, List.set_cons_zero]); (repeat ((go_big_quiet_step (fail)); (try simp only [Act.put, List.setIfInBounds_toArray, List.set_cons_succ, List.set_cons_zero]))); refine wpQuiet_nil ?_; clear hcl hf hne f X
      refine L_each [11] (by kernel_rfl) ⟨?_, trivial⟩
      simp only [nth]
      go_wp2_with (((with_reducible refine isl ?_); first | ((with_reducible apply stx); exact rfl; exact rfl; exact rfl; (exact hs.b1); exact rfl; exact rfl; exact rfl; kernel_rfl; exact rfl; clear hs; intro w hs)))
      (refine on_now hs ?_); clear hs; intro hs
      refine L_on [cel b 96 [.slice a k p]] [cel b 96 [.slice a k p]] #[true, true, true, true, true, true, true, true, true, true, true, true] (fuel := 0) hs (by kernel_rfl) (fun _ h => h) (fun _ h => h) (fun e => absurd e (by decide)) (fun e => absurd e (by decide)) ?_; clear hd hs; intro hd hs
      refine L_done (by kernel_rfl) ?_; clear hd
      go_wp2_with fail
      go_roundw
      case rel => exact ⟨k + 1, j + 1, _, _, by have := HK.out; omega, .inr (by omega), by rw [← HS.out]; refine sb_from ?_ hs; repeat constructor⟩
      case measure => rw [HLN.out, lenAt_is (by refine sb_from ?_ hs; repeat constructor)]; omega
    · have hge : ¬ (k : Int) < (m : Int) := by omega
      obtain ⟨g, rfl⟩ := own_ptr (by omega) hs.b1
      have hcap := hs.b1.own_len
      have hc1 : k ≤ p := hcap.1
      have hc2 : p ≤ maxLen := hcap.2
      unfold maxLen at hc2
      have hc3 : (m : Int) ≤ (p : Int) := by omega
      obtain ⟨qs, hqs⟩ : ∃ qs, ps ++ List.replicate j (PC.bl At.z) = qs := ⟨_, rfl⟩
      have HQL : Hid (qs.length = k) := Lib.hid (by rw [← hqs, List.length_append, List.length_replicate, HP.out.1]; exact HK.out.symm)
      have HR : Hid (resG l m = md 0 ((qs.take m).map (·.c))) := Lib.hid (by
        unfold resG
        congr 1
        rw [← hqs, List.map_take, List.map_append, List.map_replicate, HP.out.2]
        have hk := HK.out
        by_cases hmn : m ≤ l.length
        · rw [if_pos hmn]
          have hj0 : j = 0 := by
            rcases hj with h | h
            · exact h
            · rw [HN0.out] at hmn; omega
          rw [hj0, List.replicate_zero, List.append_nil]
        · rw [if_neg hmn]
          have hn := HN0.out
          have hj1 : j = m - l.length := by
            rcases hj with h | h <;> omega
          rw [List.take_of_length_le (by rw [List.length_append, List.length_replicate]; omega), hj1]
          rfl)
      have hs : sat W (cel b 96 [.slice (some ⟨g, 0, none⟩) k p] :: own 110 6 (.slice (some ⟨g, 0, none⟩) k p) k (rws qs).flatten :: cmb qs :: H) wr := by
        rw [hqs] at hs
        have h6 := cmb_bls (a := At.z) j (cmb_nil hs)
        rw [List.append_nil] at h6
        have h7 : sat W (cmb ps :: cmb (List.replicate j (PC.bl At.z)) :: cel b 96 [.slice (some ⟨g, 0, none⟩) k p] :: own 110 6 (.slice (some ⟨g, 0, none⟩) k p) k (rws qs).flatten :: H) wr := by refine sb_from ?_ h6; repeat constructor
        have h8 := cmb_app h7
        rw [hqs] at h8
        refine sb_from ?_ h8; repeat constructor
      have HTL : Hid ((qs.take m).length = m) := Lib.hid (by rw [List.length_take, HQL.out]; omega)
      have HTM : Hid (((qs.take m).map (·.c)).length = m) := Lib.hid (by rw [List.length_map]; exact HTL.out)
      have hk2 : m ≤ k := by omega
      have HM2 := Lib.hid (And.intro hm0 hm)
      clear hkm hqs hcap
      go_upto_region 8 with (((with_reducible refine isl ?_); first | ((with_reducible apply ldx); exact rfl; exact rfl; exact rfl; exact hs.b0; exact rfl; kernel_rfl) | ((with_reducible apply stx); exact rfl; exact rfl; exact rfl; exact hs.b0; exact rfl; exact rfl; exact rfl; kernel_rfl; exact rfl; clear hs; intro w hs)))
      have h9 : sat W (rwP 96 b ((qs.take m).map (·.c)) :: H) w := by
        have h6 := (hs.b1.own_take (q := m) (by omega) hk2)
        rw [flat_take _ _ (rws6 qs), rws_take] at h6
        have h7 : sat W (cmb qs :: cel b 96 [.slice (some ⟨g, 0, none⟩) m p] :: own 110 6 (.slice (some ⟨g, 0, none⟩) m p) m (rws (qs.take m)).flatten :: H) w := by refine sb_from ?_ h6; repeat constructor
        have h8 := cmb_take m h7
        exact rw_close HTL.out (by refine sb_from ?_ h8; repeat constructor)
      clear hs
      go_wp2_with ((go_at_call 68; refine (mend44 HTM.out HM2.out.1 (by have := HM2.out.2; omega) h9).mono ?_; clear h9; rintro e w ⟨rfl, hs⟩))
      go_ret
      exact ⟨rfl, by rw [HR.out]; exact hs⟩
end Go.Proofs.Ytdcagaaanbgcoaa
