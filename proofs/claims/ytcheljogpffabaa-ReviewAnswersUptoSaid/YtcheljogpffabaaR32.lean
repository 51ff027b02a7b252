/- Law 21: cells compared; a row's copy. -/
import Derived.Test.YtcheljogpffabaaSf
import Derived.Test.YtcheljogpffabaaR18
namespace Go.Proofs.Ytcheljogpffabaa
open Go.RowKit Go.Mem Go.Words Go.Deep Go.Rev
variable {W w : World} {H : List HProp} {a : Option Addr} {n cp : Nat} {L : List Cm}
/-- Cells without the place of their marks. -/
abbrev ct (L : List Cm) : List (Cl × Int × Int × Int) := L.map fun m => (m.c, m.fg, m.bg, m.fl)
theorem ct_take {k : Nat} {m : Cm} (h : L[k]? = some m) : ct (L.take (k + 1)) = ct (L.take k) ++ [(m.c, m.fg, m.bg, m.fl)] := by
  have hk := (List.getElem?_eq_some_iff.1 h).1
  rw [List.take_succ_eq_append_getElem hk, ct, List.map_append, (List.getElem?_eq_some_iff.1 h).2]
  rfl
theorem ct_cl {L L' : List Cm} (h : ct L' = ct L) : cl L' = cl L := by
  have := congrArg (List.map Prod.fst) h
  rw [ct, ct, List.map_map, List.map_map] at this
  exact this
theorem one21q : oneTy Try.prog 21 = true := by kernel_rfl
theorem row32 : rowTy Try.prog 32 3 = true := by kernel_rfl
theorem reads_cells {w : World} {a : Option Addr} {n c : Nat} {l : List Int} (h : Reads w (.slice a n c) (i32s l)) : n = l.length ∧ (0 < n → ∃ g off, a = some ⟨g, off, none⟩ ∧ ∀ i, i < n → w.cell? ⟨g, off + i, none⟩ = some (.int .i32 (l.getD i 0))) := by
  obtain ⟨_, a', c', e, hc⟩ := h
  cases e
  refine ⟨by simp [i32s], fun hp => ?_⟩
  obtain ⟨g, off, e2, h3⟩ := hc (by intro h; rw [h] at hp; simp at hp)
  exact ⟨g, off, e2, fun i hi => h3 i _ (i32_get (by simpa [i32s] using hi))⟩
abbrev cmV' (r : Int) (a : Option Addr) (k c : Nat) (wd fg bg fl : Int) : List Value := [.int .i32 r, .slice a k c, .int .u8 wd, .int .u32 fg, .int .u32 bg, .int .u16 fl]
attribute [local irreducible] rowTy oneTy World.setCell World.setCells World.alloc World.drew World.drewN Calls sat cel own blk old wpQuiet wpList tx rowsS
set_option maxHeartbeats 2000000 in
theorem copy21 {zr : Nat} (hc : CS W H a n cp L) (hz : size (cl L) ≤ 600) (hs : sat W (cel zr 71 [.slice a n cp] :: H) w) :
    Calls Try.prog 21 #[.pointer (some ⟨zr, 0, none⟩)] w fun e w' => ∃ (zc : Nat) (a' : Option Addr) (c' : Nat) (L' : List Cm), e = .returned (.pointer (some ⟨zc, 0, none⟩)) ∧ ct L' = ct L ∧ sat W (cel zc 71 [.slice a' n c'] :: own 60 6 (.slice a' n c') n (cellsF L') :: rowsS L' :: H) w' := by
  have hn0 := hc.len.1
  have hn : n ≤ 600 := by have := len_size (cl L); rw [List.length_map] at this; omega
  have HN := Lib.hid hn0
  have HC := Lib.hid hc
  have HZ := Lib.hid hz
  clear hc hz hn0
  go_enter Try.func21, Try.ntmps21
  go_wp2
  have hs1 : sat W (cel w.heap.size 71 [.slice none 0 0] :: cel zr 71 [.slice a n cp] :: H) (w.alloc (.cells #[.slice none 0 0] 71)) := hs.made
  clear hs
  revert hs1
  generalize w.heap.size = zc
  generalize w.alloc _ = w2
  intro hs
  replace hs : sat W (own 60 6 (.slice none 0 0) 0 (cellsF []) :: rowsS [] :: cel zc 71 [.slice none 0 0] :: cel zr 71 [.slice a n cp] :: H) w2 := (rows_nil hs).own_nil 60 6
  go_loopw [4] (fun i wr => ∃ (k : Nat) (L1 : List Cm) (a5 : Option Addr) (c5 : Nat), k ≤ n ∧ i = .int .i64 (k : Int) ∧ Hid (ct L1 = ct (L.take k)) ∧ sat W (own 60 6 (.slice a5 k c5) k (cellsF L1) :: rowsS L1 :: cel zc 71 [.slice a5 k c5] :: cel zr 71 [.slice a n cp] :: H) wr) (fun i _ => ((n : Int) - intOf i).toNat)
  case atStart => exact ⟨0, [], none, 0, Nat.zero_le _, rfl, Lib.hid rfl, hs⟩
  case round =>
    clear hs
    obtain ⟨k, L1, a5, c5, hk, rfl, HL, hs⟩ := hrel
    by_cases hlt : k < n
    · obtain ⟨⟨mc, ca, cc0, fg, bg, fl⟩, hm, b, off, rfl, hcc⟩ := HC.out.1.getm (hs.dropN 4) hlt
      have HCC := Lib.hid hcc
      have HM : Hid (∀ w', sat W H w' → Reads w' (.slice ca mc.comb.length cc0) (i32s mc.comb)) := Lib.hid (HC.out.2 _ (List.mem_of_getElem? hm))
      have HT : Hid (ct (L.take (k + 1)) = ct (L.take k) ++ [(mc, fg, bg, fl)]) := Lib.hid (ct_take hm)
      have hq : mc.comb.length ≤ 1000 := by
        have h1 : size (cl (L.take k)) + (1 + mc.comb.length) ≤ size (cl L) := size_take hm
        have := HZ.out; omega
      have hkn : (k : Int) < (n : Int) := by omega
      clear hcc hm
      go_upto_region 5 with (first | ((with_reducible refine isl ?_); first | ((with_reducible apply ldx); exact rfl; exact rfl; exact rfl; (first | exact hs.b0 | exact hs.b1 | exact hs.b2 | exact hs.b3 | exact hs.b4); exact rfl; kernel_rfl) | ((with_reducible apply stx); exact rfl; exact rfl; exact rfl; (first | exact hs.b0 | exact hs.b1 | exact hs.b2 | exact hs.b3 | exact hs.b4); exact rfl; exact rfl; exact rfl; kernel_rfl; exact rfl; clear hs; intro w hs) | ((with_reducible apply stcx); exact rfl; exact rfl; exact rfl; (first | exact hs.b0 | exact hs.b1 | exact hs.b2 | exact hs.b3 | exact hs.b4); exact rfl; exact rfl; kernel_rfl; exact rfl; clear hs; intro w hs) | ((with_reducible refine wrap hs ?_); clear hs; intro w hs) | ((with_reducible refine wrapn hs ?_); clear hs; intro w hs) | ((with_reducible refine wrapd hs ?_); clear hs; intro w hs)))
      refine L_begin 17 17 (cel zc 71 [.slice a5 k c5] :: cel zr 71 [.slice (some ⟨b, off, none⟩) n cp] :: H) (cel zc 71 [.slice a5 k c5] :: cel zr 71 [.slice (some ⟨b, off, none⟩) n cp] :: H) hs (fun _ h => by (refine sb_from ?_ h; repeat constructor)) (fun _ h => by (refine sb_from ?_ h; repeat constructor)) (by kernel_rfl) ?_; clear hs; intro w hs hd
      refine L_reads2 [0, 1, 2, 3, 4, 5, 6, 7, 8, 9, 10, 11] #[true, true, true, true, true, true, true, true, true, true, true, true, false, false, false, false, false, false] (fuel := 6) hd (by kernel_rfl) (fun _ _ _ _ _ h => h) ?_; clear hd; intro X f hne hf hcl hd; simp only [nths, nth, List.append_nil, List.nil_append, List.cons_append]; (try simp only [Act.put, List.setIfInBounds_toArray, List.set_cons_succ, List.set_cons_zero]); (repeat ((first | ((with_reducible apply ldscq (cs := cmV ⟨mc, ca, cc0, fg, bg, fl⟩)); exact rfl; exact rfl; exact rfl; exact fun x => HCC.out _ ((hf x).dropN 2); exact row36) | ((with_reducible apply ldqx); exact rfl; exact rfl; exact rfl; (first | exact fun x => (hf x).b0 | exact fun x => (hf x).b1); exact rfl; kernel_rfl) | go_big_quiet_step (fail)); (try simp only [Act.put, List.setIfInBounds_toArray, List.set_cons_succ, List.set_cons_zero]))); refine wpQuiet_nil ?_; clear hcl hf hne f X
      refine L_each [12] (by kernel_rfl) ⟨?_, trivial⟩
      simp only [nth]
      go_wp2_with (go_at_call 48; refine (own37 (m := ⟨mc, ca, cc0, fg, bg, fl⟩) (fun w' h => HM.out w' (h.dropN 4)) hq hs).mono ?_; clear hs; rintro e w ⟨a6, c6, rfl, hs⟩)
      (first | refine on_now hs ?_ | refine on_now hs.drew ?_ | refine on_now hs.made ?_ | refine on_now hs.made.drew ?_ | refine on_now (hs.drewN _) ?_); clear hs; intro hs
      refine L_on (cel zc 71 [.slice a5 k c5] :: cel zr 71 [.slice (some ⟨b, off, none⟩) n cp] :: H) (cel zc 71 [.slice a5 k c5] :: cel zr 71 [.slice (some ⟨b, off, none⟩) n cp] :: H) #[true, true, true, true, true, true, true, true, true, true, true, true, true, false, false, false, false, false] (fuel := 5) hs (by kernel_rfl) (fun _ h => h) (fun _ h => h) (fun _ => by (refine sb_from ?_ hs; repeat constructor)) (fun _ => by (refine sb_from ?_ hs; repeat constructor)) ?_; clear hd hs; intro hd hs
      refine L_each [13] (by kernel_rfl) ⟨?_, trivial⟩
      simp only [nth]
      go_wp2_with (first | ((with_reducible refine isl ?_); first | ((with_reducible apply ldx); exact rfl; exact rfl; exact rfl; (first | exact hs.b0 | exact hs.b1 | exact hs.b2 | exact hs.b3 | exact hs.b4 | exact hs.b5 | exact hs.b6); exact rfl; kernel_rfl) | ((with_reducible apply stx); exact rfl; exact rfl; exact rfl; (first | exact hs.b0 | exact hs.b1 | exact hs.b2 | exact hs.b3 | exact hs.b4 | exact hs.b5 | exact hs.b6); exact rfl; exact rfl; exact rfl; kernel_rfl; exact rfl; clear hs; intro w hs) | ((with_reducible apply stcx); exact rfl; exact rfl; exact rfl; (first | exact hs.b0 | exact hs.b1 | exact hs.b2 | exact hs.b3 | exact hs.b4 | exact hs.b5 | exact hs.b6); exact rfl; exact rfl; kernel_rfl; exact rfl; clear hs; intro w hs) | ((with_reducible refine wrap hs ?_); clear hs; intro w hs) | ((with_reducible refine wrapn hs ?_); clear hs; intro w hs) | ((with_reducible refine wrapd hs ?_); clear hs; intro w hs)))
      (first | refine on_now hs ?_ | refine on_now hs.drew ?_ | refine on_now hs.made ?_ | refine on_now hs.made.drew ?_ | refine on_now (hs.drewN _) ?_); clear hs; intro hs
      refine L_on (cel zc 71 [.slice a5 k c5] :: cel zr 71 [.slice (some ⟨b, off, none⟩) n cp] :: H) (cel zc 71 [.slice a5 k c5] :: cel zr 71 [.slice (some ⟨b, off, none⟩) n cp] :: H) #[true, true, true, true, true, true, true, true, true, true, true, true, true, true, false, false, false, false] (fuel := 4) hs (by kernel_rfl) (fun _ h => h) (fun _ h => h) (fun _ => by (refine sb_from ?_ hs; repeat constructor)) (fun _ => by (refine sb_from ?_ hs; repeat constructor)) ?_; clear hd hs; intro hd hs
      refine L_each [14] (by kernel_rfl) ⟨?_, trivial⟩
      simp only [nth]
      go_wp2_with (first | ((with_reducible apply app hs.b2); exact rfl; exact rfl; exact rfl; exact rfl; exact slty22; exact rfl; exact rfl; decide; omega; (unfold maxLen; omega); clear hs; intro g5 c7 w hs) | ((with_reducible apply app hs.b1); exact rfl; exact rfl; exact rfl; exact rfl; exact slty22; exact rfl; exact rfl; decide; omega; (unfold maxLen; omega); clear hs; intro g5 c7 w hs) | ((with_reducible apply app hs.b3); exact rfl; exact rfl; exact rfl; exact rfl; exact slty22; exact rfl; exact rfl; decide; omega; (unfold maxLen; omega); clear hs; intro g5 c7 w hs) | ((with_reducible apply app hs.b4); exact rfl; exact rfl; exact rfl; exact rfl; exact slty22; exact rfl; exact rfl; decide; omega; (unfold maxLen; omega); clear hs; intro g5 c7 w hs))
      (first | refine on_now hs ?_ | refine on_now hs.drew ?_ | refine on_now hs.made ?_ | refine on_now hs.made.drew ?_ | refine on_now (hs.drewN _) ?_); clear hs; intro hs
      refine L_on (cel zc 71 [.slice a5 k c5] :: cel zr 71 [.slice (some ⟨b, off, none⟩) n cp] :: H) (cel zc 71 [.slice a5 k c5] :: cel zr 71 [.slice (some ⟨b, off, none⟩) n cp] :: H) #[true, true, true, true, true, true, true, true, true, true, true, true, true, true, true, false, false, false] (fuel := 3) hs (by kernel_rfl) (fun _ h => h) (fun _ h => h) (fun _ => by (refine sb_from ?_ hs; repeat constructor)) (fun _ => by (refine sb_from ?_ hs; repeat constructor)) ?_; clear hd hs; intro hd hs
      refine L_each [15] (by kernel_rfl) ⟨?_, trivial⟩
      simp only [nth]
      go_wp2_with (first | ((with_reducible refine isl ?_); first | ((with_reducible apply ldx); exact rfl; exact rfl; exact rfl; (first | exact hs.b0 | exact hs.b1 | exact hs.b2 | exact hs.b3 | exact hs.b4 | exact hs.b5 | exact hs.b6); exact rfl; kernel_rfl) | ((with_reducible apply stx); exact rfl; exact rfl; exact rfl; (first | exact hs.b0 | exact hs.b1 | exact hs.b2 | exact hs.b3 | exact hs.b4 | exact hs.b5 | exact hs.b6); exact rfl; exact rfl; exact rfl; kernel_rfl; exact rfl; clear hs; intro w hs) | ((with_reducible apply stcx); exact rfl; exact rfl; exact rfl; (first | exact hs.b0 | exact hs.b1 | exact hs.b2 | exact hs.b3 | exact hs.b4 | exact hs.b5 | exact hs.b6); exact rfl; exact rfl; kernel_rfl; exact rfl; clear hs; intro w hs) | ((with_reducible refine wrap hs ?_); clear hs; intro w hs) | ((with_reducible refine wrapn hs ?_); clear hs; intro w hs) | ((with_reducible refine wrapd hs ?_); clear hs; intro w hs)))
      (first | refine on_now hs ?_ | refine on_now hs.drew ?_ | refine on_now hs.made ?_ | refine on_now hs.made.drew ?_ | refine on_now (hs.drewN _) ?_); clear hs; intro hs
      refine L_on (cel zc 71 [.slice a5 k c5] :: cel zr 71 [.slice (some ⟨b, off, none⟩) n cp] :: H) (cel zc 71 [.slice a5 k c5] :: cel zr 71 [.slice (some ⟨b, off, none⟩) n cp] :: H) #[true, true, true, true, true, true, true, true, true, true, true, true, true, true, true, true, false, false] (fuel := 2) hs (by kernel_rfl) (fun _ h => h) (fun _ h => h) (fun _ => by (refine sb_from ?_ hs; repeat constructor)) (fun _ => by (refine sb_from ?_ hs; repeat constructor)) ?_; clear hd hs; intro hd hs
      refine L_reads2 [16] #[true, true, true, true, true, true, true, true, true, true, true, true, true, true, true, true, true, false] (fuel := 1) hd (by kernel_rfl) (fun _ _ _ _ _ h => h) ?_; clear hd; intro X f hne hf hcl hd; simp only [nths, nth, List.append_nil, List.nil_append, List.cons_append]; (try simp only [Act.put, List.setIfInBounds_toArray, List.set_cons_succ, List.set_cons_zero]); (repeat ((first | ((with_reducible apply ldscq (cs := cmV ⟨mc, ca, cc0, fg, bg, fl⟩)); exact rfl; exact rfl; exact rfl; exact fun x => HCC.out _ ((hf x).dropN 2); exact row36) | ((with_reducible apply ldqx); exact rfl; exact rfl; exact rfl; (first | exact fun x => (hf x).b0 | exact fun x => (hf x).b1); exact rfl; kernel_rfl) | go_big_quiet_step (fail)); (try simp only [Act.put, List.setIfInBounds_toArray, List.set_cons_succ, List.set_cons_zero]))); refine wpQuiet_nil ?_; clear hcl hf hne f X
      refine L_each [17] (by kernel_rfl) ⟨?_, trivial⟩
      simp only [nth]
      go_wp2_with (first | ((with_reducible refine isl ?_); first | ((with_reducible apply ldx); exact rfl; exact rfl; exact rfl; (first | exact hs.b0 | exact hs.b1 | exact hs.b2 | exact hs.b3 | exact hs.b4 | exact hs.b5 | exact hs.b6); exact rfl; kernel_rfl) | ((with_reducible apply stx); exact rfl; exact rfl; exact rfl; (first | exact hs.b0 | exact hs.b1 | exact hs.b2 | exact hs.b3 | exact hs.b4 | exact hs.b5 | exact hs.b6); exact rfl; exact rfl; exact rfl; kernel_rfl; exact rfl; clear hs; intro w hs) | ((with_reducible apply stcx); exact rfl; exact rfl; exact rfl; (first | exact hs.b0 | exact hs.b1 | exact hs.b2 | exact hs.b3 | exact hs.b4 | exact hs.b5 | exact hs.b6); exact rfl; exact rfl; kernel_rfl; exact rfl; clear hs; intro w hs) | ((with_reducible refine wrap hs ?_); clear hs; intro w hs) | ((with_reducible refine wrapn hs ?_); clear hs; intro w hs) | ((with_reducible refine wrapd hs ?_); clear hs; intro w hs)))
      (first | refine on_now hs ?_ | refine on_now hs.drew ?_ | refine on_now hs.made ?_ | refine on_now hs.made.drew ?_ | refine on_now (hs.drewN _) ?_); clear hs; intro hs
      refine L_on (cel zc 71 [.slice a5 k c5] :: cel zr 71 [.slice (some ⟨b, off, none⟩) n cp] :: H) (cel zc 71 [.slice a5 k c5] :: cel zr 71 [.slice (some ⟨b, off, none⟩) n cp] :: H) #[true, true, true, true, true, true, true, true, true, true, true, true, true, true, true, true, true, true] (fuel := 0) hs (by kernel_rfl) (fun _ h => h) (fun _ h => h) (fun e => absurd e (by decide)) (fun e => absurd e (by decide)) ?_; clear hd hs; intro hd hs
      refine L_done (by kernel_rfl) ?_; clear hd
      replace hs : sat W (own 60 6 (.slice (some ⟨g5, 0, none⟩) (k + 1) c7) (k + 1) (cellsF (L1 ++ [⟨mc, a6, c6, fg, bg, fl⟩])) :: rowsS (L1 ++ [⟨mc, a6, c6, fg, bg, fl⟩]) :: cel zc 71 [.slice (some ⟨g5, 0, none⟩) (k + 1) c7] :: cel zr 71 [.slice (some ⟨b, off, none⟩) n cp] :: H) w := by
        rw [cellsF_snoc L1 ⟨mc, a6, c6, fg, bg, fl⟩] at hs
        have h2 : sat W (ownM ⟨mc, a6, c6, fg, bg, fl⟩ :: rowsS L1 :: own 60 6 (.slice (some ⟨g5, 0, none⟩) (k + 1) c7) (k + 1) (cellsF (L1 ++ [⟨mc, a6, c6, fg, bg, fl⟩])) :: cel zc 71 [.slice (some ⟨g5, 0, none⟩) (k + 1) c7] :: cel zr 71 [.slice (some ⟨b, off, none⟩) n cp] :: H) w := by (refine sb_from ?_ hs; repeat constructor)
        exact (rows_snoc h2).b1
      go_wp2
      go_roundw
      case rel => exact ⟨k + 1, L1 ++ [⟨mc, a6, c6, fg, bg, fl⟩], _, _, hlt, by go_num, Lib.hid (by rw [HT.out, ct, List.map_append, ← HL.out]; rfl), hs⟩
      case measure => simp [intOf]; omega
    · obtain rfl : k = n := by omega
      have HE : Hid (ct L1 = ct L) := Lib.hid (by have := HL.out; rwa [List.take_of_length_le (by have := HN.out; omega)] at this)
      go_wp2_with (first | ((with_reducible refine isl ?_); first | ((with_reducible apply ldx); exact rfl; exact rfl; exact rfl; (first | exact hs.b0 | exact hs.b1 | exact hs.b2 | exact hs.b3 | exact hs.b4); exact rfl; kernel_rfl) | ((with_reducible apply stx); exact rfl; exact rfl; exact rfl; (first | exact hs.b0 | exact hs.b1 | exact hs.b2 | exact hs.b3 | exact hs.b4); exact rfl; exact rfl; exact rfl; kernel_rfl; exact rfl; clear hs; intro w hs) | ((with_reducible apply stcx); exact rfl; exact rfl; exact rfl; (first | exact hs.b0 | exact hs.b1 | exact hs.b2 | exact hs.b3 | exact hs.b4); exact rfl; exact rfl; kernel_rfl; exact rfl; clear hs; intro w hs) | ((with_reducible refine wrap hs ?_); clear hs; intro w hs) | ((with_reducible refine wrapn hs ?_); clear hs; intro w hs) | ((with_reducible refine wrapd hs ?_); clear hs; intro w hs)))
      go_ret
      exact ⟨zc, _, _, L1, rfl, HE.out, by (refine sb_from ?_ hs; repeat constructor)⟩

/-- Cells of one's own stand. -/
theorem own_cs {c : Nat} {L : List Cm} (hs : sat W (own 60 6 (.slice a n c) n (cellsF L) :: rowsS L :: H) w) : CS W (own 60 6 (.slice a n c) n (cellsF L) :: rowsS L :: H) a n c L := by
  refine ⟨(SR.of_own (L := L.map cmV) hs (by decide) (by intro r hr; obtain ⟨p, _, rfl⟩ := List.mem_map.1 hr; rfl)), fun m hm w' h => ?_⟩
  obtain ⟨i, hi⟩ := List.mem_iff_getElem?.1 hm
  have hil := (List.getElem?_eq_some_iff.1 hi).1
  have e : L = L.take i ++ m :: L.drop (i + 1) := by
    conv => lhs; rw [← List.take_append_drop i L]
    rw [List.drop_eq_getElem_cons hil, (List.getElem?_eq_some_iff.1 hi).2]
  have h1 := h.b1
  rw [e] at h1
  exact (rows_out _ _ _ h1).own_reads.1
set_option maxHeartbeats 4000000 in
set_option maxRecDepth 20000 in
theorem samecell47 {q : Cl} {a1 a2 : Option Addr} {k1 k2 : Nat} {fg bg fl : Int} (hs : sat W H w) (h1 : ∀ w', sat W H w' → Reads w' (.slice a1 q.comb.length k1) (i32s q.comb)) (h2 : ∀ w', sat W H w' → Reads w' (.slice a2 q.comb.length k2) (i32s q.comb)) (hq : q.comb.length ≤ 1000) :
    Calls Try.prog 47 #[.agg (cmV ⟨q, a1, k1, fg, bg, fl⟩).toArray, .agg (cmV ⟨q, a2, k2, fg, bg, fl⟩).toArray] w fun e w' => e = .returned (.bool true) ∧ sat W H w' := by
  obtain ⟨r, comb, wd⟩ := q
  simp only at h1 h2 hq
  obtain ⟨k, hk⟩ : ∃ k, comb.length = k := ⟨_, rfl⟩
  have HK := Lib.hid hk
  rw [hk] at h1 h2 hq
  have ga : 0 < k → ∃ g off, a1 = some ⟨g, off, none⟩ ∧ ∀ i, i < k → ∀ w', sat W H w' → w'.cell? ⟨g, off + i, none⟩ = some (.int .i32 (comb.getD i 0)) := fun hp => by
    obtain ⟨g, off, e, _⟩ := (reads_cells (h1 w hs)).2 hp
    refine ⟨g, off, e, fun i hi w' hw => ?_⟩
    obtain ⟨g2, off2, e2, hc⟩ := (reads_cells (h1 w' hw)).2 hp
    rw [e] at e2
    cases e2
    exact hc i hi
  have gb : 0 < k → ∃ g off, a2 = some ⟨g, off, none⟩ ∧ ∀ i, i < k → ∀ w', sat W H w' → w'.cell? ⟨g, off + i, none⟩ = some (.int .i32 (comb.getD i 0)) := fun hp => by
    obtain ⟨g, off, e, _⟩ := (reads_cells (h2 w hs)).2 hp
    refine ⟨g, off, e, fun i hi w' hw => ?_⟩
    obtain ⟨g2, off2, e2, hc⟩ := (reads_cells (h2 w' hw)).2 hp
    rw [e] at e2
    cases e2
    exact hc i hi
  by_cases h0 : k = 0
  · have w0 : ¬ (0 : Int) < (k : Int) := by omega
    have w1' : decide (0 < k) = false := decide_eq_false (by omega)
    clear ga gb h1 h2 hk h0
    simp only [cmV, HK.out]
    go_enter Try.func47, Try.ntmps47
    go_wp2_with (first | ((with_reducible refine isl ?_); first | ((with_reducible apply ldsx 3); exact rfl; exact rfl; exact rfl; (first | exact hs.b0 | exact hs.b1 | exact hs.b2); exact row32; exact rfl; exact rfl) | ((with_reducible apply ldx); exact rfl; exact rfl; exact rfl; (first | exact hs.b0 | exact hs.b1); exact rfl; kernel_rfl) | ((with_reducible apply stx); exact rfl; exact rfl; exact rfl; (first | exact hs.b0 | exact hs.b1); exact rfl; exact rfl; exact rfl; kernel_rfl; exact rfl; clear hs; intro w hs) | ((with_reducible apply stcx); exact rfl; exact rfl; exact rfl; (first | exact hs.b0 | exact hs.b1); exact rfl; exact rfl; kernel_rfl; exact rfl; clear hs; intro w hs) | ((with_reducible refine wrap hs ?_); clear hs; (first | (have _t := z1; clear _t; generalize w.heap.size = z2) | generalize w.heap.size = z1); intro w hs) | ((with_reducible refine wrap hs ?_); clear hs; intro w hs) | ((with_reducible refine wrapn hs ?_); clear hs; intro w hs) | ((with_reducible refine wrapd hs ?_); clear hs; intro w hs)))
    go_loopw [5] (fun iv wr => iv = .int .i64 0 ∧ sat W (cel z2 60 (cmV' r a2 k k2 wd fg bg fl) :: cel z1 60 (cmV' r a1 k k1 wd fg bg fl) :: H) wr) (fun _ _ => 0)
    case atStart => exact ⟨rfl, by refine sb_from ?_ hs; repeat constructor⟩
    case round =>
      clear hs
      obtain ⟨rfl, hs⟩ := hrel
      go_wp2_with (first | ((with_reducible refine isl ?_); first | ((with_reducible apply ldsx 3); exact rfl; exact rfl; exact rfl; (first | exact hs.b0 | exact hs.b1 | exact hs.b2); exact row32; exact rfl; exact rfl) | ((with_reducible apply ldx); exact rfl; exact rfl; exact rfl; (first | exact hs.b0 | exact hs.b1); exact rfl; kernel_rfl) | ((with_reducible apply stx); exact rfl; exact rfl; exact rfl; (first | exact hs.b0 | exact hs.b1); exact rfl; exact rfl; exact rfl; kernel_rfl; exact rfl; clear hs; intro w hs) | ((with_reducible apply stcx); exact rfl; exact rfl; exact rfl; (first | exact hs.b0 | exact hs.b1); exact rfl; exact rfl; kernel_rfl; exact rfl; clear hs; intro w hs) | ((with_reducible refine wrap hs ?_); clear hs; intro w hs) | ((with_reducible refine wrapn hs ?_); clear hs; intro w hs) | ((with_reducible refine wrapd hs ?_); clear hs; intro w hs)))
      go_ret
      exact ⟨rfl, hs.drop.drop⟩
  · obtain ⟨g1, o1, rfl, hc1⟩ := ga (by omega)
    obtain ⟨g2, o2, rfl, hc2⟩ := gb (by omega)
    have HC1 := Lib.hid hc1
    have HC2 := Lib.hid hc2
    clear ga gb h1 h2 hk h0 hc1 hc2
    simp only [cmV, HK.out]
    go_enter Try.func47, Try.ntmps47
    go_wp2_with (first | ((with_reducible refine isl ?_); first | ((with_reducible apply ldsx 3); exact rfl; exact rfl; exact rfl; (first | exact hs.b0 | exact hs.b1 | exact hs.b2); exact row32; exact rfl; exact rfl) | ((with_reducible apply ldx); exact rfl; exact rfl; exact rfl; (first | exact hs.b0 | exact hs.b1); exact rfl; kernel_rfl) | ((with_reducible apply stx); exact rfl; exact rfl; exact rfl; (first | exact hs.b0 | exact hs.b1); exact rfl; exact rfl; exact rfl; kernel_rfl; exact rfl; clear hs; intro w hs) | ((with_reducible apply stcx); exact rfl; exact rfl; exact rfl; (first | exact hs.b0 | exact hs.b1); exact rfl; exact rfl; kernel_rfl; exact rfl; clear hs; intro w hs) | ((with_reducible refine wrap hs ?_); clear hs; (first | (have _t := z1; clear _t; generalize w.heap.size = z2) | generalize w.heap.size = z1); intro w hs) | ((with_reducible refine wrap hs ?_); clear hs; intro w hs) | ((with_reducible refine wrapn hs ?_); clear hs; intro w hs) | ((with_reducible refine wrapd hs ?_); clear hs; intro w hs)))
    go_loopw [5] (fun iv wr => ∃ i : Nat, i ≤ k ∧ iv = .int .i64 (i : Int) ∧ sat W (cel z2 60 (cmV' r (some ⟨g2, o2, none⟩) k k2 wd fg bg fl) :: cel z1 60 (cmV' r (some ⟨g1, o1, none⟩) k k1 wd fg bg fl) :: H) wr) (fun iv _ => ((k : Int) - intOf iv).toNat)
    case atStart => exact ⟨0, Nat.zero_le _, rfl, by refine sb_from ?_ hs; repeat constructor⟩
    case round =>
      clear hs
      obtain ⟨i, hi, rfl, hs⟩ := hrel
      by_cases hlt : i < k
      · have z0 : (i : Int) < (k : Int) := by omega
        have HI1 := Lib.hid (HC1.out i hlt)
        have HI2 := Lib.hid (HC2.out i hlt)
        generalize comb.getD i 0 = u at HI1 HI2
        go_wp2_with (first | ((try simp only [Act.put, List.setIfInBounds_toArray, List.set_cons_succ, List.set_cons_zero]); refine region_sat hs (by kernel_rfl) (by kernel_rfl) ?_; intro X f hne hf hcl; (repeat ((first | (apply ldcq; exact rfl; exact rfl; exact rfl; (first | exact fun y => HI1.out _ ((hf y).dropN 0) | exact fun y => HI1.out _ ((hf y).dropN 1) | exact fun y => HI1.out _ ((hf y).dropN 2) | exact fun y => HI1.out _ ((hf y).dropN 3) | exact fun y => HI1.out _ ((hf y).dropN 4) | exact fun y => HI1.out _ ((hf y).dropN 5) | exact fun y => HI1.out _ ((hf y).dropN 6) | exact fun y => HI1.out _ ((hf y).dropN 7)); exact one21q) | (apply ldcq; exact rfl; exact rfl; exact rfl; (first | exact fun y => HI2.out _ ((hf y).dropN 0) | exact fun y => HI2.out _ ((hf y).dropN 1) | exact fun y => HI2.out _ ((hf y).dropN 2) | exact fun y => HI2.out _ ((hf y).dropN 3) | exact fun y => HI2.out _ ((hf y).dropN 4) | exact fun y => HI2.out _ ((hf y).dropN 5) | exact fun y => HI2.out _ ((hf y).dropN 6) | exact fun y => HI2.out _ ((hf y).dropN 7)); exact one21q) | ((with_reducible apply ldqx); exact rfl; exact rfl; exact rfl; (first | exact fun x => (hf x).b0 | exact fun x => (hf x).b1); exact rfl; kernel_rfl) | go_big_quiet_step (fail)); (try simp only [Act.put, List.setIfInBounds_toArray, List.set_cons_succ, List.set_cons_zero]))); refine wpQuiet_nil ?_; clear hcl hf hne hs f X; intro w hs) | ((with_reducible refine isl ?_); first | ((with_reducible apply ldx); exact rfl; exact rfl; exact rfl; (first | exact hs.b0 | exact hs.b1); exact rfl; kernel_rfl) | ((with_reducible apply stx); exact rfl; exact rfl; exact rfl; (first | exact hs.b0 | exact hs.b1); exact rfl; exact rfl; exact rfl; kernel_rfl; exact rfl; clear hs; intro w hs) | ((with_reducible apply stcx); exact rfl; exact rfl; exact rfl; (first | exact hs.b0 | exact hs.b1); exact rfl; exact rfl; kernel_rfl; exact rfl; clear hs; intro w hs) | ((with_reducible refine wrap hs ?_); clear hs; intro w hs) | ((with_reducible refine wrapn hs ?_); clear hs; intro w hs) | ((with_reducible refine wrapd hs ?_); clear hs; intro w hs)))
        go_roundw
        case rel => exact ⟨i + 1, hlt, by go_num, by refine sb_from ?_ hs; repeat constructor⟩
        case measure => simp [intOf]; omega
      · obtain rfl : k = i := by omega
        go_wp2_with (first | ((with_reducible refine isl ?_); first | ((with_reducible apply ldx); exact rfl; exact rfl; exact rfl; (first | exact hs.b0 | exact hs.b1); exact rfl; kernel_rfl) | ((with_reducible apply stx); exact rfl; exact rfl; exact rfl; (first | exact hs.b0 | exact hs.b1); exact rfl; exact rfl; exact rfl; kernel_rfl; exact rfl; clear hs; intro w hs) | ((with_reducible apply stcx); exact rfl; exact rfl; exact rfl; (first | exact hs.b0 | exact hs.b1); exact rfl; exact rfl; kernel_rfl; exact rfl; clear hs; intro w hs) | ((with_reducible refine wrap hs ?_); clear hs; intro w hs) | ((with_reducible refine wrapn hs ?_); clear hs; intro w hs) | ((with_reducible refine wrapd hs ?_); clear hs; intro w hs)))
        go_ret
        exact ⟨rfl, hs.drop.drop⟩
end Go.Proofs.Ytcheljogpffabaa
namespace Go.Proofs.Ytcheljogpffabaa
open Go.RowKit Go.Mem Go.Words Go.Deep Go.Rev
variable {W w : World} {H : List HProp} {n : Nat}
theorem slty27c : SlTy Try.prog 27 57 1 24 := ⟨Try.underlying27, by obtain ⟨i0, hi, hz0, hz1, hz2⟩ := info_parts (show (Try.prog.info? 57).map (fun i => (i.zero, i.size, i.bytes)) = some (some (.slice none 0 0), 1, 24) by kernel_rfl); exact ⟨i0, _, hi, hz0, hz1, hz2, rfl⟩, by decide⟩
/-- Rows of one's own, each with its cells and their marks. -/
def cpP : List Rw → HProp
  | [] => pur True
  | r :: R => star (own 60 6 (.slice r.a r.k r.c) r.k (cellsF r.L)) (star (rowsS r.L) (cpP R))
theorem cp_nil (hs : sat W H w) : sat W (cpP [] :: H) w := ⟨hs.1, hs.2.1, hs.2.2.1, holds_true hs.2.2.2⟩
theorem cp_out : ∀ (A : List Rw) (r : Rw) (B : List Rw) {H : List HProp} {w : World}, sat W (cpP (A ++ r :: B) :: H) w → sat W (own 60 6 (.slice r.a r.k r.c) r.k (cellsF r.L) :: rowsS r.L :: cpP A :: cpP B :: H) w
  | [], r, B, H, w, hs => by
    have h1 : sat W (own 60 6 (.slice r.a r.k r.c) r.k (cellsF r.L) :: star (rowsS r.L) (cpP B) :: H) w := sat.unstar hs
    have h2 := cp_nil (h1.b1.unstar)
    refine sb_from ?_ h2; repeat constructor
  | x :: A, r, B, H, w, hs => by
    have h1 : sat W (own 60 6 (.slice x.a x.k x.c) x.k (cellsF x.L) :: star (rowsS x.L) (cpP (A ++ r :: B)) :: H) w := sat.unstar hs
    have h2 : sat W (rowsS x.L :: cpP (A ++ r :: B) :: own 60 6 (.slice x.a x.k x.c) x.k (cellsF x.L) :: H) w := sat.unstar h1.b1
    have h3 := cp_out A r B h2.b1
    have h4 : sat W (rowsS x.L :: cpP A :: own 60 6 (.slice x.a x.k x.c) x.k (cellsF x.L) :: own 60 6 (.slice r.a r.k r.c) r.k (cellsF r.L) :: rowsS r.L :: cpP B :: H) w := by refine sb_from ?_ h3; repeat constructor
    have h5 := h4.star.b1.star
    have h6 : sat W (cpP (x :: A) :: own 60 6 (.slice r.a r.k r.c) r.k (cellsF r.L) :: rowsS r.L :: cpP B :: H) w := h5
    refine sb_from ?_ h6; repeat constructor
theorem cp_in : ∀ (A : List Rw) (r : Rw) (B : List Rw) {H : List HProp} {w : World}, sat W (own 60 6 (.slice r.a r.k r.c) r.k (cellsF r.L) :: rowsS r.L :: cpP A :: cpP B :: H) w → sat W (cpP (A ++ r :: B) :: H) w
  | [], r, B, H, w, hs => by
    have h1 : sat W (rowsS r.L :: cpP B :: own 60 6 (.slice r.a r.k r.c) r.k (cellsF r.L) :: H) w := by refine sb_from ?_ hs; repeat constructor
    exact h1.star.b1.star
  | x :: A, r, B, H, w, hs => by
    have h1 : sat W (own 60 6 (.slice x.a x.k x.c) x.k (cellsF x.L) :: star (rowsS x.L) (cpP A) :: own 60 6 (.slice r.a r.k r.c) r.k (cellsF r.L) :: rowsS r.L :: cpP B :: H) w := sat.unstar (show sat W (star (own 60 6 (.slice x.a x.k x.c) x.k (cellsF x.L)) (star (rowsS x.L) (cpP A)) :: own 60 6 (.slice r.a r.k r.c) r.k (cellsF r.L) :: rowsS r.L :: cpP B :: H) w from hs.b2)
    have h2 : sat W (rowsS x.L :: cpP A :: own 60 6 (.slice x.a x.k x.c) x.k (cellsF x.L) :: own 60 6 (.slice r.a r.k r.c) r.k (cellsF r.L) :: rowsS r.L :: cpP B :: H) w := sat.unstar h1.b1
    have h3 : sat W (own 60 6 (.slice r.a r.k r.c) r.k (cellsF r.L) :: rowsS r.L :: cpP A :: cpP B :: rowsS x.L :: own 60 6 (.slice x.a x.k x.c) x.k (cellsF x.L) :: H) w := by refine sb_from ?_ h2; repeat constructor
    have h4 := cp_in A r B h3
    have h5 : sat W (rowsS x.L :: cpP (A ++ r :: B) :: own 60 6 (.slice x.a x.k x.c) x.k (cellsF x.L) :: H) w := by refine sb_from ?_ h4; repeat constructor
    exact h5.star.b1.star
theorem cp_snoc {A : List Rw} {r : Rw} (hs : sat W (own 60 6 (.slice r.a r.k r.c) r.k (cellsF r.L) :: rowsS r.L :: cpP A :: H) w) : sat W (cpP (A ++ [r]) :: H) w := cp_in A r [] ((cp_nil hs).b3.b3.b3)
attribute [local irreducible] rowTy oneTy World.setCell World.setCells World.alloc World.drew World.drewN Calls sat cel own blk old wpQuiet wpList tx rowsS cpP
set_option maxHeartbeats 4000000 in
set_option maxRecDepth 20000 in
theorem same18 {a b : Option Addr} {c1 c2 : Nat} {L1 L2 : List Cm} (hs : sat W H w) (h1 : CS W H a n c1 L1) (h2 : CS W H b n c2 L2) (e : ct L1 = ct L2) (hz : size (cl L1) ≤ 600) :
    Calls Try.prog 18 #[.slice a n c1, .slice b n c2] w fun e w' => e = .returned (.bool true) ∧ sat W H w' := by
  have hl1 := h1.len
  have hl2 := h2.len
  have hn6 : n ≤ 600 := by have := len_size (cl L1); simp [cl] at this; have := hz; simp [cl] at this; omega
  have HC1 := Lib.hid h1
  have HC2 := Lib.hid h2
  have HE := Lib.hid e
  have HZ := Lib.hid hz
  have HN := Lib.hid hl1.1
  have e1 : ((n : Int) != (n : Int)) = false := by simp
  clear h1 h2 e hz hl1 hl2
  by_cases h0 : n = 0
  · have w0 : ¬ (0 : Int) < (n : Int) := by omega
    have w1' : decide (0 < n) = false := decide_eq_false (by omega)
    clear h0
    go_enter Try.func18, Try.ntmps18
    go_wp2
    go_loopw [5] (fun iv wr => iv = .int .i64 0 ∧ sat W H wr) (fun _ _ => 0)
    case atStart => exact ⟨rfl, hs⟩
    case round =>
      clear hs
      obtain ⟨rfl, hs⟩ := hrel
      go_wp2
      go_ret
      exact ⟨rfl, hs⟩
  obtain ⟨_, _, b1, o1, rfl, _⟩ := HC1.out.1.getm (f := cmV) hs (show 0 < n by omega)
  obtain ⟨_, _, b2, o2, rfl, _⟩ := HC2.out.1.getm (f := cmV) hs (show 0 < n by omega)
  clear h0
  go_enter Try.func18, Try.ntmps18
  go_wp2
  go_loopw [5] (fun iv wr => ∃ k : Nat, k ≤ n ∧ iv = .int .i64 (k : Int) ∧ sat W H wr) (fun iv _ => ((n : Int) - intOf iv).toNat)
  case atStart => exact ⟨0, Nat.zero_le _, rfl, hs⟩
  case round =>
    clear hs
    obtain ⟨k, hk, rfl, hs⟩ := hrel
    by_cases hlt : k < n
    · obtain ⟨m1, hm1, b', o', eb, hc1⟩ := HC1.out.1.getm (f := cmV) hs hlt
      obtain ⟨rfl, rfl⟩ : b1 = b' ∧ o1 = o' := by cases eb; exact ⟨rfl, rfl⟩
      obtain ⟨m2, hm2, b'', o'', eb2, hc2⟩ := HC2.out.1.getm (f := cmV) hs hlt
      obtain ⟨rfl, rfl⟩ : b2 = b'' ∧ o2 = o'' := by cases eb2; exact ⟨rfl, rfl⟩
      have hmm : (m1.c, m1.fg, m1.bg, m1.fl) = (m2.c, m2.fg, m2.bg, m2.fl) := by
        have h := congrArg (fun l => l[k]?) HE.out
        simp only [ct, List.getElem?_map, hm1, hm2] at h
        exact Option.some.inj h
      have HR1 := Lib.hid (HC1.out.2 m1 (List.mem_of_getElem? hm1))
      have HR2 := Lib.hid (HC2.out.2 m2 (List.mem_of_getElem? hm2))
      have hq : m1.c.comb.length ≤ 1000 := by
        have h1 := size_take hm1
        have := HZ.out
        omega
      obtain ⟨q, a1, k1, fg, bg, fl⟩ := m1
      obtain ⟨q', a2, k2, fg', bg', fl'⟩ := m2
      simp only [Prod.mk.injEq] at hmm
      obtain ⟨rfl, rfl, rfl, rfl⟩ := hmm
      have HH1 := Lib.hid hc1
      have HH2 := Lib.hid hc2
      have z0 : (k : Int) < (n : Int) := by omega
      have hk6 : k ≤ 600 := by omega
      clear hc1 hc2 hm1 hm2 eb eb2
      go_upto_region 6 with fail
      refine region_mix [([0, 1, 2, 3, 4, 5, 6, 7], [8])] [9] hs (fun _ h => h) (by kernel_rfl) (by kernel_rfl) (fun _ _ _ _ _ h => h) ?_
      simp only [segs, nths, nth, List.append_nil, List.nil_append, List.cons_append, List.map_cons, List.map_nil]
      refine seg_reads (fun _ h => h) ?_; intro X f hne hf hcl; (try simp only [Act.put, List.setIfInBounds_toArray, List.set_cons_succ, List.set_cons_zero]); (repeat ((first | ((with_reducible apply ldscq (cs := cmV ⟨q, a1, k1, fg, bg, fl⟩)); exact rfl; exact rfl; exact rfl; exact fun y => HH1.out _ (hf y); exact row36) | ((with_reducible apply ldscq (cs := cmV ⟨q, a2, k2, fg, bg, fl⟩)); exact rfl; exact rfl; exact rfl; exact fun y => HH2.out _ (hf y); exact row36) | go_big_quiet_step (fail)); (try simp only [Act.put, List.setIfInBounds_toArray, List.set_cons_succ, List.set_cons_zero]))); refine wpQuiet_nil ?_; clear hcl hf hne hs f X; intro w hs
      go_wp2_with (first | (go_at_call 47; refine (samecell47 (q := q) (a1 := a1) (k1 := k1) (a2 := a2) (k2 := k2) hs HR1.out HR2.out hq).mono ?_; clear hs; rintro e w ⟨rfl, hs⟩) | ((with_reducible refine isl ?_); first | ((with_reducible refine wrap hs ?_); clear hs; intro w hs) | ((with_reducible refine wrapn hs ?_); clear hs; intro w hs) | ((with_reducible refine wrapd hs ?_); clear hs; intro w hs)))
      (first | (refine seg_on hs (by first | exact fun _ h => h | exact fun _ h => h.drop | exact fun _ h => h.drop.drop | exact fun _ h => h.drop.drop.drop) (fun _ h => h) ?_; clear hs; intro hs) | (refine seg_on hs.made (by first | exact fun _ h => h | exact fun _ h => h.drop | exact fun _ h => h.drop.drop | exact fun _ h => h.drop.drop.drop) (fun _ h => h) ?_; clear hs; intro hs) | (refine seg_on hs.drew (by first | exact fun _ h => h | exact fun _ h => h.drop | exact fun _ h => h.drop.drop | exact fun _ h => h.drop.drop.drop) (fun _ h => h) ?_; clear hs; intro hs) | (refine seg_on hs.drew.made (by first | exact fun _ h => h | exact fun _ h => h.drop | exact fun _ h => h.drop.drop | exact fun _ h => h.drop.drop.drop) (fun _ h => h) ?_; clear hs; intro hs) | (refine seg_on (hs.drewN _) (by first | exact fun _ h => h | exact fun _ h => h.drop | exact fun _ h => h.drop.drop | exact fun _ h => h.drop.drop.drop) (fun _ h => h) ?_; clear hs; intro hs))
      refine seg_last (fun _ h => h) ?_; intro X f hne hf hcl; (try simp only [Act.put, List.setIfInBounds_toArray, List.set_cons_succ, List.set_cons_zero]); (repeat ((first | ((with_reducible apply ldscq (cs := cmV ⟨q, a1, k1, fg, bg, fl⟩)); exact rfl; exact rfl; exact rfl; exact fun y => HH1.out _ (hf y); exact row36) | ((with_reducible apply ldscq (cs := cmV ⟨q, a2, k2, fg, bg, fl⟩)); exact rfl; exact rfl; exact rfl; exact fun y => HH2.out _ (hf y); exact row36) | go_big_quiet_step (fail)); (try simp only [Act.put, List.setIfInBounds_toArray, List.set_cons_succ, List.set_cons_zero]))); refine wpQuiet_nil ?_; clear hcl hf hne hs f X; intro w hs
      go_wp2_with fail
      go_roundw
      case rel => exact ⟨k + 1, hlt, by go_num, hs⟩
      case measure => simp [intOf]; omega
    · obtain rfl : n = k := by omega
      go_wp2
      go_ret
      exact ⟨rfl, hs⟩
set_option maxHeartbeats 4000000 in
set_option maxRecDepth 20000 in
theorem copied9 {aR : Option Addr} {cR : Nat} {R : List Rw} (hR : SR 1 W H aR n cR (R.map fun r => [r.v])) (hE : ∀ r ∈ R, CS W H r.a r.k r.c r.L) (hz : ∀ r ∈ R, size (cl r.L) ≤ 600) (hn : n ≤ 12) (hs : sat W H w) :
    Calls Try.prog 9 #[.slice aR n cR] w fun e w' => ∃ a' c' R', e = .returned (.slice a' n c') ∧ R'.map (fun r => (r.k, ct r.L)) = R.map (fun r => (r.k, ct r.L)) ∧ sat W (own 57 1 (.slice a' n c') n (R'.map Rw.v) :: cpP R' :: H) w' := by
  have HR := Lib.hid hR
  have HE := Lib.hid hE
  have HZ := Lib.hid hz
  have HN : Hid (n = R.length) := Lib.hid (by have := hR.len.1; rwa [List.length_map] at this)
  clear hR hE hz
  go_enter Try.func9, Try.ntmps9
  go_wp2
  have hs := (cp_nil hs).own_nil 57 1
  go_loopw [3, 8] (fun s3 iv wr => ∃ (k : Nat) (R1 : List Rw) (a5 : Option Addr) (c5 : Nat), k ≤ n ∧ iv = .int .i64 (k : Int) ∧ s3 = .slice a5 k c5 ∧ Hid (R1.map (fun r => (r.k, ct r.L)) = (R.take k).map (fun r => (r.k, ct r.L))) ∧ sat W (own 57 1 (.slice a5 k c5) k (R1.map Rw.v) :: cpP R1 :: H) wr) (fun _ iv _ => ((n : Int) - intOf iv).toNat)
  case atStart => exact ⟨0, [], none, 0, Nat.zero_le _, rfl, rfl, Lib.hid rfl, hs⟩
  case round =>
    clear hs
    obtain ⟨k, R1, a5, c5, hk, rfl, rfl, HL, hs⟩ := hrel
    by_cases hlt : k < n
    · obtain ⟨r, hr, b, off, rfl, hc⟩ := HR.out.getb (f := fun r : Rw => r.v) (hs.dropN 2) hlt
      have HC := Lib.hid hc
      have HCS := Lib.hid (HE.out r (List.mem_of_getElem? hr))
      have HSZ := Lib.hid (HZ.out r (List.mem_of_getElem? hr))
      have HT : Hid ((R.take (k + 1)).map (fun r => (r.k, ct r.L)) = (R.take k).map (fun r => (r.k, ct r.L)) ++ [(r.k, ct r.L)]) := Lib.hid (by
        have hi := (List.getElem?_eq_some_iff.1 hr).1
        rw [List.take_succ_eq_append_getElem hi, List.map_append, (List.getElem?_eq_some_iff.1 hr).2]; rfl)
      obtain ⟨ra, rk, rc, rL⟩ := r
      have z0 : (k : Int) < (n : Int) := by omega
      have hk12 : k ≤ 12 := by omega
      clear hc hr
      go_wp2_with (first | (apply ldc; exact rfl; exact rfl; exact rfl; (first | exact HC.out _ (hs.dropN 0) | exact HC.out _ (hs.dropN 1) | exact HC.out _ (hs.dropN 2) | exact HC.out _ (hs.dropN 3) | exact HC.out _ (hs.dropN 4) | exact HC.out _ (hs.dropN 5) | exact HC.out _ (hs.dropN 6) | exact HC.out _ (hs.dropN 7)); exact one57) | (go_at_call 21; refine (copy21 HCS.out.more.more HSZ.out hs).mono ?_; clear hs; rintro e w ⟨zc, a7, c7, L7, rfl, hq7, hs⟩; have HQ := Lib.hid hq7; clear hq7) | (first | ((with_reducible apply app hs.b0); exact rfl; exact rfl; exact rfl; exact rfl; exact slty27c; exact rfl; exact rfl; decide; omega; (unfold maxLen; omega); clear hs; intro g8 c8 w hs) | ((with_reducible apply app hs.b1); exact rfl; exact rfl; exact rfl; exact rfl; exact slty27c; exact rfl; exact rfl; decide; omega; (unfold maxLen; omega); clear hs; intro g8 c8 w hs) | ((with_reducible apply app hs.b2); exact rfl; exact rfl; exact rfl; exact rfl; exact slty27c; exact rfl; exact rfl; decide; omega; (unfold maxLen; omega); clear hs; intro g8 c8 w hs) | ((with_reducible apply app hs.b3); exact rfl; exact rfl; exact rfl; exact rfl; exact slty27c; exact rfl; exact rfl; decide; omega; (unfold maxLen; omega); clear hs; intro g8 c8 w hs) | ((with_reducible apply app hs.b4); exact rfl; exact rfl; exact rfl; exact rfl; exact slty27c; exact rfl; exact rfl; decide; omega; (unfold maxLen; omega); clear hs; intro g8 c8 w hs) | ((with_reducible apply app hs.b5); exact rfl; exact rfl; exact rfl; exact rfl; exact slty27c; exact rfl; exact rfl; decide; omega; (unfold maxLen; omega); clear hs; intro g8 c8 w hs) | ((with_reducible apply app hs.b6); exact rfl; exact rfl; exact rfl; exact rfl; exact slty27c; exact rfl; exact rfl; decide; omega; (unfold maxLen; omega); clear hs; intro g8 c8 w hs)) | ((with_reducible refine isl ?_); first | ((with_reducible refine wrap hs ?_); clear hs; generalize World.heap _ = qz; (first | (have _t := z7; clear _t; generalize qz.size = z8) | generalize qz.size = z7); intro w hs) | ((with_reducible apply ldx); exact rfl; exact rfl; exact rfl; (first | exact hs.b0 | exact hs.b1 | exact hs.b2); exact rfl; kernel_rfl) | ((with_reducible apply stx); exact rfl; exact rfl; exact rfl; (first | exact hs.b0 | exact hs.b1 | exact hs.b2); exact rfl; exact rfl; exact rfl; kernel_rfl; exact rfl; clear hs; intro w hs) | ((with_reducible apply stcx); exact rfl; exact rfl; exact rfl; (first | exact hs.b0 | exact hs.b1 | exact hs.b2); exact rfl; exact rfl; kernel_rfl; exact rfl; clear hs; intro w hs) | ((with_reducible refine wrap hs ?_); clear hs; intro w hs) | ((with_reducible refine wrapn hs ?_); clear hs; intro w hs) | ((with_reducible refine wrapd hs ?_); clear hs; intro w hs)))
      rw [show R1.map Rw.v ++ [Value.slice a7 rk c7] = (R1 ++ [(⟨a7, rk, c7, L7⟩ : Rw)]).map Rw.v from by rw [List.map_append]; rfl] at hs
      go_roundw
      case rel =>
        refine ⟨k + 1, R1 ++ [(⟨a7, rk, c7, L7⟩ : Rw)], _, _, hlt, by go_num, rfl, Lib.hid (by rw [HT.out, List.map_append, ← HL.out, ← HQ.out]; rfl), ?_⟩
        have h9 : sat W (own 60 6 (.slice a7 rk c7) rk (cellsF L7) :: rowsS L7 :: cpP R1 :: own 57 1 (.slice (some ⟨g8, 0, none⟩) (k + 1) c8) (k + 1) ((R1 ++ [(⟨a7, rk, c7, L7⟩ : Rw)]).map Rw.v) :: H) w := by refine sb_from ?_ hs; repeat constructor
        exact (cp_snoc (r := ⟨a7, rk, c7, L7⟩) h9).b1
      case measure => simp [intOf]; omega
    · obtain rfl : n = k := by omega
      have HQ : Hid (R1.map (fun r => (r.k, ct r.L)) = R.map (fun r => (r.k, ct r.L))) := Lib.hid (by have := HL.out; rwa [List.take_of_length_le (by rw [← HN.out]; exact Nat.le_refl _)] at this)
      go_wp2
      go_ret
      exact ⟨_, _, R1, rfl, HQ.out, hs⟩
end Go.Proofs.Ytcheljogpffabaa
