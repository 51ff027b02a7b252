/- Law 20: what the document answers: a word, the next one, the last one ahead. -/
import Derived.Test.YtcheljogpffabaaSf
import Derived.Test.YtcheljogpffabaaW22
namespace Go.Proofs.Ytcheljogpffabaa
open Go.RowKit Go.Mem Go.Words Go.Deep
variable {W w : World} {H : List HProp} {a : Option Addr} {n cp : Nat} {L : List Cm}
theorem results_ct {P : Program} {fn : Func} {tmps : Array Value} {b : Nat} {T ty : TypeId} {l : List Value} {t t2 : Tmp} (hs : sat W (cel b T l :: H) w)
    (hr : fn.results = #[.cell t ty, .tmp t2]) (hx : tmps.getD t undef = .pointer (some ⟨b, 0, none⟩)) (ht : rowTy P ty l.length = true) : (results fn tmps).run P w = .ok (.tuple #[.agg l.toArray, tmps.getD t2 undef]) w := by
  have hx' : tmps[t]?.getD undef = .pointer (some ⟨b, 0, none⟩) := by rw [← Array.getD_eq_getD_getElem?]; exact hx
  obtain ⟨d, h1, h2, h3⟩ := rowTy_parts ht
  have hl := run_loadVar_mid (P := P) w b 0 ty l d (hs.cel_range (i := 0) (n := l.length) (by simp)) h1 h2 h3
  unfold results
  simp [hr, hx', hl, asAddr]
theorem one3 : oneTy Try.prog 3 = true := by kernel_rfl
theorem rwords_t {ws : List (Nat × Nat)} {k : Nat} (hc : CS W H a n cp L) (hz : size (cl L) ≤ 600) (e : words ((cl L).map isB) = ws) (e2 : ws.length = k) (hs : sat W H w) :
    Calls Try.prog 66 #[.slice a n cp] w fun e w' => ∃ a' c', e = .returned (.slice a' k c') ∧ sat W (own 87 2 (.slice a' k c') k (exs ws) :: H) w' := by subst e2 e; exact rwords26 hc hz hs
theorem Non.take {P : Nat × Nat → Bool} {ws : List (Nat × Nat)} {k : Nat} {x : Nat × Nat} (h : Non P (ws.take k)) (e : ws.take (k + 1) = ws.take k ++ [x]) (hx : P x = false) : Non P (ws.take (k + 1)) := by rw [e]; exact h.snoc hx
theorem prev_found {ws pr r : List (Nat × Nat)} {x : Nat × Nat} {col : Int} (e : ws = pr ++ x :: r) (hx : (x.1 : Int) < col) (hr : ∀ y ∈ r, ¬ (y.1 : Int) < col) : prevW ws col = x.1 := by
  unfold prevW
  rw [e, List.foldl_append, List.foldl_cons, prev_none r _ hr]
  unfold prevStep
  rw [if_pos hx]
attribute [local irreducible] rowTy oneTy World.setCell World.setCells World.alloc World.drew World.drewN Calls sat cel own blk old wpQuiet wpList tx Non
variable {ws : List (Nat × Nat)}
set_option maxHeartbeats 2000000 in
theorem rnext29 {col r : Int} (hc : CS W H a n cp L) (hz : size (cl L) ≤ 600) (e : words ((cl L).map isB) = ws) (er : nextW ws col = r) (hs : sat W H w) :
    Calls Try.prog 72 #[.slice a n cp, .int .i64 col] w fun e w' => e = .returned (.int .i64 r) ∧ sat W H w' := by
  have hn0 := hc.len.1
  have hn : n ≤ 600 := by have := len_size (cl L); rw [List.length_map] at this; omega
  have HC := Lib.hid hc
  have HZ := Lib.hid hz
  have HWS := Lib.hid e
  have hwl : ws.length ≤ 600 := by have h1 := words_len ((cl L).map isB) _ 0 rfl; rw [← e]; unfold words; rw [List.length_map, List.length_map] at h1; omega
  obtain ⟨nW, hnW⟩ : ∃ k, ws.length = k := ⟨_, rfl⟩
  rw [hnW] at hwl
  have HLw := Lib.hid hnW
  clear hc hz hn0 e hnW
  have HR := Lib.hid er
  clear er
  go_enter Try.func72, Try.ntmps72
  go_wp2_with (first | (go_at_call 66; refine (rwords_t HC.out HZ.out HWS.out HLw.out hs).mono ?_; clear hs; rintro e w ⟨aW, cW, rfl, hs⟩) | ((with_reducible refine isl ?_); first | ((with_reducible refine wrap hs ?_); clear hs; intro w hs) | ((with_reducible refine wrapn hs ?_); clear hs; intro w hs) | ((with_reducible refine wrapd hs ?_); clear hs; intro w hs)))
  go_loopw [6] (fun i wr => ∃ k : Nat, k ≤ nW ∧ i = .int .i64 (k : Int) ∧ Non (nP col) (ws.take k) ∧ sat W (own 87 2 (.slice aW nW cW) nW (exs ws) :: H) wr) (fun i _ => ((nW : Int) - intOf i).toNat)
  case atStart => exact ⟨0, Nat.zero_le _, rfl, non_nil _, hs⟩
  case round =>
    clear hs
    obtain ⟨k, hk, rfl, hNN, hs⟩ := hrel
    by_cases hlt : k < nW
    · obtain ⟨gW, cW2, e⟩ := hs.b0.own_some (by omega)
      cases e
      obtain ⟨⟨x1, x2⟩, hxi⟩ : ∃ y, ws[k]? = some y := ⟨_, List.getElem?_eq_getElem (by have := HLw.out; omega)⟩
      have HX := Lib.hid hxi
      have HTK : Hid (ws.take (k + 1) = ws.take k ++ [(x1, x2)]) := Lib.hid (by
        have hi := (List.getElem?_eq_some_iff.1 hxi).1
        rw [List.take_succ_eq_append_getElem hi, (List.getElem?_eq_some_iff.1 hxi).2])
      have HSP : Hid (ws = ws.take k ++ (x1, x2) :: ws.drop (k + 1)) := Lib.hid (ws_split hxi)
      clear hxi
      by_cases hx : col < (x1 : Int)
      · have HV : Hid (r = (x1 : Int)) := Lib.hid (by rw [← HR.out, HSP.out]; exact next_at hNN hx)
        go_wp2_with (first | (apply ldc; exact rfl; exact rfl; exact rfl; exact ext_cell hs.b0 HX.out 0 _ rfl; exact one3) | ((with_reducible refine isl ?_); first | ((with_reducible refine wrap hs ?_); clear hs; intro w hs) | ((with_reducible refine wrapn hs ?_); clear hs; intro w hs) | ((with_reducible refine wrapd hs ?_); clear hs; intro w hs)))
        go_ret
        exact ⟨by rw [HV.out]; rfl, hs.drop⟩
      · have hN2 := hNN.take HTK.out (by simpa [nP] using hx)
        go_wp2_with (first | (apply ldc; exact rfl; exact rfl; exact rfl; exact ext_cell hs.b0 HX.out 0 _ rfl; exact one3) | ((with_reducible refine isl ?_); first | ((with_reducible refine wrap hs ?_); clear hs; intro w hs) | ((with_reducible refine wrapn hs ?_); clear hs; intro w hs) | ((with_reducible refine wrapd hs ?_); clear hs; intro w hs)))
        go_roundw
        case rel => exact ⟨k + 1, hlt, by go_num, hN2, hs⟩
        case measure => simp [intOf]; omega
    · obtain rfl : k = nW := by omega
      have HV : Hid (r = -1) := Lib.hid (by rw [← HR.out]; rw [List.take_of_length_le (by have := HLw.out; omega)] at hNN; exact next_no hNN)
      go_wp2
      go_ret
      exact ⟨by rw [HV.out]; rfl, hs.drop⟩
set_option maxHeartbeats 2000000 in
theorem rprev30 {col r : Int} (hc : CS W H a n cp L) (hz : size (cl L) ≤ 600) (e : words ((cl L).map isB) = ws) (er : prevW ws col = r) (hs : sat W H w) :
    Calls Try.prog 71 #[.slice a n cp, .int .i64 col] w fun e w' => e = .returned (.int .i64 r) ∧ sat W H w' := by
  have hn0 := hc.len.1
  have hn : n ≤ 600 := by have := len_size (cl L); rw [List.length_map] at this; omega
  have HC := Lib.hid hc
  have HZ := Lib.hid hz
  have HWS := Lib.hid e
  have hwl : ws.length ≤ 600 := by have h1 := words_len ((cl L).map isB) _ 0 rfl; rw [← e]; unfold words; rw [List.length_map, List.length_map] at h1; omega
  obtain ⟨nW, hnW⟩ : ∃ k, ws.length = k := ⟨_, rfl⟩
  rw [hnW] at hwl
  have HLw := Lib.hid hnW
  clear hc hz hn0 e hnW
  have HR := Lib.hid er
  clear er
  go_enter Try.func71, Try.ntmps71
  go_wp2_with (first | (go_at_call 66; refine (rwords_t HC.out HZ.out HWS.out HLw.out hs).mono ?_; clear hs; rintro e w ⟨aW, cW, rfl, hs⟩) | ((with_reducible refine isl ?_); first | ((with_reducible refine wrap hs ?_); clear hs; intro w hs) | ((with_reducible refine wrapn hs ?_); clear hs; intro w hs) | ((with_reducible refine wrapd hs ?_); clear hs; intro w hs)))
  go_loopw [6] (fun i wr => ∃ k : Nat, k ≤ nW ∧ i = .int .i64 ((k : Int) - 1) ∧ Hid (∀ y ∈ ws.drop k, ¬ (y.1 : Int) < col) ∧ sat W (own 87 2 (.slice aW nW cW) nW (exs ws) :: H) wr) (fun i _ => (intOf i + 1).toNat)
  case atStart => exact ⟨nW, Nat.le_refl _, by go_num, Lib.hid (by rw [List.drop_eq_nil_of_le (by have := HLw.out; omega)]; simp), hs⟩
  case round =>
    clear hs
    obtain ⟨k, hk, rfl, HD, hs⟩ := hrel
    cases k with
    | succ k =>
      obtain ⟨gW, cW2, e⟩ := hs.b0.own_some (by omega)
      cases e
      obtain ⟨⟨x1, x2⟩, hxi⟩ : ∃ y, ws[k]? = some y := ⟨_, List.getElem?_eq_getElem (by have := HLw.out; omega)⟩
      have HX := Lib.hid hxi
      have HTK : Hid (ws.take (k + 1) = ws.take k ++ [(x1, x2)]) := Lib.hid (by
        have hi := (List.getElem?_eq_some_iff.1 hxi).1
        rw [List.take_succ_eq_append_getElem hi, (List.getElem?_eq_some_iff.1 hxi).2])
      have HSP : Hid (ws = ws.take k ++ (x1, x2) :: ws.drop (k + 1)) := Lib.hid (ws_split hxi)
      clear hxi
      have hk1 : ((k + 1 : Nat) : Int) - 1 = (k : Int) := by omega
      rw [hk1]
      have hk0 : 0 ≤ (k : Int) := by omega
      have hkn : (k : Int) < (nW : Int) := by omega
      clear hk1
      by_cases hx : (x1 : Int) < col
      · have HV : Hid (r = (x1 : Int)) := Lib.hid (by rw [← HR.out]; exact prev_found HSP.out hx HD.out)
        go_wp2_with (first | (apply ldc; exact rfl; exact rfl; exact rfl; exact ext_cell hs.b0 HX.out 0 _ rfl; exact one3) | ((with_reducible refine isl ?_); first | ((with_reducible refine wrap hs ?_); clear hs; intro w hs) | ((with_reducible refine wrapn hs ?_); clear hs; intro w hs) | ((with_reducible refine wrapd hs ?_); clear hs; intro w hs)))
        go_ret
        exact ⟨by rw [HV.out]; rfl, hs.drop⟩
      · have HD2 : Hid (∀ y ∈ ws.drop k, ¬ (y.1 : Int) < col) := Lib.hid (by
          have hi := (List.getElem?_eq_some_iff.1 HX.out).1
          rw [List.drop_eq_getElem_cons hi, (List.getElem?_eq_some_iff.1 HX.out).2]
          intro y hy
          rcases List.mem_cons.1 hy with rfl | hy
          · exact hx
          · exact HD.out y hy)
        go_wp2_with (first | (apply ldc; exact rfl; exact rfl; exact rfl; exact ext_cell hs.b0 HX.out 0 _ rfl; exact one3) | ((with_reducible refine isl ?_); first | ((with_reducible refine wrap hs ?_); clear hs; intro w hs) | ((with_reducible refine wrapn hs ?_); clear hs; intro w hs) | ((with_reducible refine wrapd hs ?_); clear hs; intro w hs)))
        go_roundw
        case rel => exact ⟨k, by omega, by go_num, HD2, hs⟩
        case measure => simp [intOf]
    | zero =>
      have HV : Hid (r = -1) := Lib.hid (by rw [← HR.out]; unfold prevW; exact prev_none ws _ HD.out)
      go_wp2
      go_ret
      exact ⟨by rw [HV.out]; rfl, hs.drop⟩
set_option maxHeartbeats 2000000 in
theorem rword27 {col : Int} {r : Option (Nat × Nat)} (hc : CS W H a n cp L) (hz : size (cl L) ≤ 600) (e : words ((cl L).map isB) = ws) (er : wordW ws col = r) (hs : sat W H w) :
    Calls Try.prog 45 #[.slice a n cp, .int .i64 col] w fun e w' => e = .returned (wordV r) ∧ sat W H w' := by
  have hn0 := hc.len.1
  have hn : n ≤ 600 := by have := len_size (cl L); rw [List.length_map] at this; omega
  have HC := Lib.hid hc
  have HZ := Lib.hid hz
  have HWS := Lib.hid e
  have hwl : ws.length ≤ 600 := by have h1 := words_len ((cl L).map isB) _ 0 rfl; rw [← e]; unfold words; rw [List.length_map, List.length_map] at h1; omega
  obtain ⟨nW, hnW⟩ : ∃ k, ws.length = k := ⟨_, rfl⟩
  rw [hnW] at hwl
  have HLw := Lib.hid hnW
  clear hc hz hn0 e hnW
  have HR := Lib.hid er
  clear er
  go_enter Try.func45, Try.ntmps45
  go_wp2_with (first | (go_at_call 66; refine (rwords_t HC.out.more HZ.out HWS.out HLw.out hs).mono ?_; clear hs; rintro e w ⟨aW, cW, rfl, hs⟩) | ((with_reducible refine isl ?_); first | ((with_reducible refine wrap hs ?_); clear hs; (first | generalize w.heap.size = z1); intro w hs) | ((with_reducible refine wrap hs ?_); clear hs; intro w hs) | ((with_reducible refine wrapn hs ?_); clear hs; intro w hs) | ((with_reducible refine wrapd hs ?_); clear hs; intro w hs)))
  go_loopw [7] (fun i wr => ∃ k : Nat, k ≤ nW ∧ i = .int .i64 (k : Int) ∧ Non (wP col) (ws.take k) ∧ sat W (own 87 2 (.slice aW nW cW) nW (exs ws) :: cel z1 87 [.int .i64 0, .int .i64 0] :: H) wr) (fun i _ => ((nW : Int) - intOf i).toNat)
  case atStart => exact ⟨0, Nat.zero_le _, rfl, non_nil _, hs⟩
  case round =>
    clear hs
    obtain ⟨k, hk, rfl, hNN, hs⟩ := hrel
    by_cases hlt : k < nW
    · obtain ⟨gW, cW2, e⟩ := hs.b0.own_some (by omega)
      cases e
      obtain ⟨⟨x1, x2⟩, hxi⟩ : ∃ y, ws[k]? = some y := ⟨_, List.getElem?_eq_getElem (by have := HLw.out; omega)⟩
      have HX := Lib.hid hxi
      have HTK : Hid (ws.take (k + 1) = ws.take k ++ [(x1, x2)]) := Lib.hid (by
        have hi := (List.getElem?_eq_some_iff.1 hxi).1
        rw [List.take_succ_eq_append_getElem hi, (List.getElem?_eq_some_iff.1 hxi).2])
      have HSP : Hid (ws = ws.take k ++ (x1, x2) :: ws.drop (k + 1)) := Lib.hid (ws_split hxi)
      clear hxi
      by_cases hx : (x1 : Int) ≤ col
      · by_cases hx2 : col < (x2 : Int)
        · have HV : Hid (r = some (x1, x2)) := Lib.hid (by rw [← HR.out, HSP.out]; exact word_at hNN (by simp [wP, hx, hx2]))
          go_wp2_with (first | (apply ldc; exact rfl; exact rfl; exact rfl; exact ext_cell hs.b0 HX.out 0 _ rfl; exact one3) | (apply ldc; exact rfl; exact rfl; exact rfl; exact ext_cell hs.b0 HX.out 1 _ rfl; exact one3) | ((with_reducible refine isl ?_); first | ((with_reducible apply ldsc (cs := exC (x1, x2))); exact rfl; exact rfl; exact rfl; exact ext_cell hs HX.out; exact row41) | ((with_reducible apply stswx); exact rfl; exact rfl; exact rfl; exact hs.b1; exact rfl; exact row41; exact rfl; exact rfl; exact rfl; clear hs; intro w hs) | ((with_reducible refine wrap hs ?_); clear hs; intro w hs) | ((with_reducible refine wrapn hs ?_); clear hs; intro w hs) | ((with_reducible refine wrapd hs ?_); clear hs; intro w hs)))
          refine ⟨rfl, _, results_ct (hs.b0) rfl rfl (by kernel_rfl), ?_⟩
          exact ⟨by rw [HV.out]; rfl, hs.drop.drop⟩
        · have hN2 := hNN.take HTK.out (show wP col (x1, x2) = false by simp [wP]; omega)
          have g1 : decide (col < (x2 : Int)) = false := decide_eq_false hx2
          have g2 : decide ((x1 : Int) ≤ col) = true := decide_eq_true hx
          have hx2' : (x2 : Int) ≤ col := by omega
          go_wp2_with (first | (apply ldc; exact rfl; exact rfl; exact rfl; exact ext_cell hs.b0 HX.out 0 _ rfl; exact one3) | (apply ldc; exact rfl; exact rfl; exact rfl; exact ext_cell hs.b0 HX.out 1 _ rfl; exact one3) | ((with_reducible refine isl ?_); first | ((with_reducible refine wrap hs ?_); clear hs; intro w hs) | ((with_reducible refine wrapn hs ?_); clear hs; intro w hs) | ((with_reducible refine wrapd hs ?_); clear hs; intro w hs)))
          go_roundw
          case rel => exact ⟨k + 1, hlt, by go_num, hN2, hs⟩
          case measure => simp [intOf]; omega
      · have hN2 := hNN.take HTK.out (show wP col (x1, x2) = false by simp [wP]; omega)
        go_wp2_with (first | (apply ldc; exact rfl; exact rfl; exact rfl; exact ext_cell hs.b0 HX.out 0 _ rfl; exact one3) | ((with_reducible refine isl ?_); first | ((with_reducible refine wrap hs ?_); clear hs; intro w hs) | ((with_reducible refine wrapn hs ?_); clear hs; intro w hs) | ((with_reducible refine wrapd hs ?_); clear hs; intro w hs)))
        go_roundw
        case rel => exact ⟨k + 1, hlt, by go_num, hN2, hs⟩
        case measure => simp [intOf]; omega
    · obtain rfl : k = nW := by omega
      have HV : Hid (r = none) := Lib.hid (by rw [← HR.out]; rw [List.take_of_length_le (by have := HLw.out; omega)] at hNN; exact word_no hNN)
      go_wp2_with (first | ((with_reducible refine isl ?_); first | ((with_reducible apply stswx); exact rfl; exact rfl; exact rfl; exact hs.b1; exact rfl; exact row41; exact rfl; exact rfl; exact rfl; clear hs; intro w hs) | ((with_reducible refine wrap hs ?_); clear hs; intro w hs) | ((with_reducible refine wrapn hs ?_); clear hs; intro w hs) | ((with_reducible refine wrapd hs ?_); clear hs; intro w hs)))
      refine ⟨rfl, _, results_ct (hs.b0) rfl rfl (by kernel_rfl), ?_⟩
      exact ⟨by rw [HV.out]; rfl, hs.drop.drop⟩
end Go.Proofs.Ytcheljogpffabaa
