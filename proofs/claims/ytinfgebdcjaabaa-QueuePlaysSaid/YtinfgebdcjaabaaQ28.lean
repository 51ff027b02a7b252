/- Law 18: the document's queue: without, Silence, Mark, Accept. -/
import Derived.Test.YtinfgebdcjaabaaQ27
namespace Go.Proofs.Ytinfgebdcjaabaa
open Go.RowKit Go.Mem Go.Queue
variable {W w : World} {H : List HProp}
attribute [local irreducible] World.setCell World.setCells World.alloc World.drew World.drewN Calls sat cel own blk old wpQuiet wpList qu uts gn World.rangeAt tru leastUpto bestUpto si Utf8.decode wc wst wordsOf may PutPost put accept mark rq but
variable {b : Nat} {q : Qu}
set_option maxHeartbeats 1000000 in
theorem without37_go {n k : Nat} {at_ : Int} {L : List Value} {aW : Option Addr} {cW : Nat} {l : List Ut} (hn : l.length = n) (h100 : n ≤ 1000) (hat : ∀ j : Nat, j < n → (((j : Int) != at_) = false ∧ j = k) ∨ (((j : Int) != at_) = true ∧ j ≠ k)) (hs : sat W (cel b 53 L :: own 25 5 (.slice aW n cW) n (uts l) :: H) w) (hL : L[1]? = some (.slice aW n cW)) :
    Calls Try.prog 37 #[.pointer (some ⟨b, 0, none⟩), .int .i64 at_] w fun e w' => ∃ a c, e = .returned (.slice a (but l k n).length c) ∧ sat W (utO a c (but l k n) :: cel b 53 L :: own 25 5 (.slice aW n cW) n (uts l) :: H) w' := by
  have HN := Lib.hid hn
  have HT := Lib.hid hat
  have HL := Lib.hid hL
  clear hn hat hL
  go_enter Try.func37, Try.ntmps37
  go_wp2_with (first | ((with_reducible refine isl ?_); first | ((with_reducible apply ld hs.b0); exact rfl; exact rfl; exact rfl; exact rfl; kernel_rfl) | ((with_reducible apply st hs.b0); exact rfl; exact rfl; exact rfl; exact rfl; exact rfl; exact rfl; kernel_rfl; exact rfl; clear hs; intro w hs) | ((with_reducible apply stc hs.b0); exact rfl; exact rfl; exact rfl; exact rfl; exact rfl; kernel_rfl; exact rfl; clear hs; intro w hs) | ((with_reducible refine wrap hs ?_); clear hs; intro w hs) | ((with_reducible refine wrapn hs ?_); clear hs; intro w hs) | ((with_reducible refine wrapd hs ?_); clear hs; intro w hs)))
  go_loopw [5, 6] (fun v i wr => ∃ (j : Nat) (G : List Ut) (a1 : Option Addr) (c1 : Nat), j ≤ n ∧ G.length ≤ j ∧ v = .slice a1 G.length c1 ∧ i = .int .i64 (j : Int) ∧ Hid (G = but l k j) ∧ sat W (utO a1 c1 G :: cel b 53 L :: own 25 5 (.slice aW n cW) n (uts l) :: H) wr) (fun _ i _ => ((n : Int) - intOf i).toNat)
  case atStart => exact ⟨0, [], none, 0, Nat.zero_le _, Nat.le_refl _, rfl, rfl, Lib.hid (but_zero _ _).symm, utO_nil hs⟩
  case round =>
    clear hs
    obtain ⟨j, G, a1, c1, hj, hg, rfl, rfl, HG, hs⟩ := hrel
    by_cases hjn : j < n
    · obtain ⟨x, hx⟩ : ∃ x, l[j]? = some x := ⟨_, List.getElem?_eq_getElem (by rw [HN.out]; exact hjn)⟩
      have HX := Lib.hid hx
      clear hx
      obtain ⟨g, cW', e⟩ := hs.b2.own_some (by omega)
      cases e
      rcases HT.out j hjn with ⟨g1, rfl⟩ | ⟨g1, hk⟩
      · go_wp2_with (first | ((with_reducible refine isl ?_); first | ((with_reducible apply ld hs.b0); exact rfl; exact rfl; exact rfl; exact HL.out; exact one34) | ((with_reducible apply ld hs.b1); exact rfl; exact rfl; exact rfl; exact HL.out; exact one34) | ((with_reducible apply ld hs.b2); exact rfl; exact rfl; exact rfl; exact HL.out; exact one34) | ((with_reducible apply ld hs.b0); exact rfl; exact rfl; exact rfl; exact rfl; kernel_rfl) | ((with_reducible apply ld hs.b1); exact rfl; exact rfl; exact rfl; exact rfl; kernel_rfl) | ((with_reducible apply ld hs.b2); exact rfl; exact rfl; exact rfl; exact rfl; kernel_rfl) | ((with_reducible apply st hs.b0); exact rfl; exact rfl; exact rfl; exact rfl; exact rfl; exact rfl; kernel_rfl; exact rfl; clear hs; intro w hs) | ((with_reducible apply st hs.b1); exact rfl; exact rfl; exact rfl; exact rfl; exact rfl; exact rfl; kernel_rfl; exact rfl; clear hs; intro w hs) | ((with_reducible apply st hs.b2); exact rfl; exact rfl; exact rfl; exact rfl; exact rfl; exact rfl; kernel_rfl; exact rfl; clear hs; intro w hs) | ((with_reducible apply stc hs.b0); exact rfl; exact rfl; exact rfl; exact rfl; exact rfl; kernel_rfl; exact rfl; clear hs; intro w hs) | ((with_reducible apply stc hs.b1); exact rfl; exact rfl; exact rfl; exact rfl; exact rfl; kernel_rfl; exact rfl; clear hs; intro w hs) | ((with_reducible apply stc hs.b2); exact rfl; exact rfl; exact rfl; exact rfl; exact rfl; kernel_rfl; exact rfl; clear hs; intro w hs) | ((with_reducible refine wrap hs ?_); clear hs; intro w hs) | ((with_reducible refine wrapn hs ?_); clear hs; intro w hs) | ((with_reducible refine wrapd hs ?_); clear hs; intro w hs)))
        go_roundw
        case rel => exact ⟨j + 1, G, _, _, by omega, by omega, rfl, by go_num, Lib.hid (by rw [but_same HX.out, HG.out]), hs⟩
        case measure => simp [intOf]; omega
      · go_wp2_with (first | (first | (((with_reducible apply ldsc (cs := utC x)); exact rfl; exact rfl; exact rfl; exact uts_range hs.b0 HX.out; exact row25)) | (((with_reducible apply ldsc (cs := utC x)); exact rfl; exact rfl; exact rfl; exact uts_range hs.b1 HX.out; exact row25)) | (((with_reducible apply ldsc (cs := utC x)); exact rfl; exact rfl; exact rfl; exact uts_range hs.b2 HX.out; exact row25)) | (((with_reducible apply ldsc (cs := utC x)); exact rfl; exact rfl; exact rfl; exact uts_range hs.b3 HX.out; exact row25))) | ((with_reducible refine isl ?_); first | ((with_reducible apply ld hs.b0); exact rfl; exact rfl; exact rfl; exact HL.out; exact one34) | ((with_reducible apply ld hs.b1); exact rfl; exact rfl; exact rfl; exact HL.out; exact one34) | ((with_reducible apply ld hs.b2); exact rfl; exact rfl; exact rfl; exact HL.out; exact one34) | ((with_reducible refine wrap hs ?_); clear hs; generalize wr.heap.size = z8; intro w hs) | ((with_reducible apply ld hs.b0); exact rfl; exact rfl; exact rfl; exact rfl; kernel_rfl) | ((with_reducible apply ld hs.b1); exact rfl; exact rfl; exact rfl; exact rfl; kernel_rfl) | ((with_reducible apply ld hs.b2); exact rfl; exact rfl; exact rfl; exact rfl; kernel_rfl) | ((with_reducible apply ld hs.b3); exact rfl; exact rfl; exact rfl; exact rfl; kernel_rfl) | ((with_reducible apply st hs.b0); exact rfl; exact rfl; exact rfl; exact rfl; exact rfl; exact rfl; kernel_rfl; exact rfl; clear hs; intro w hs) | ((with_reducible apply st hs.b1); exact rfl; exact rfl; exact rfl; exact rfl; exact rfl; exact rfl; kernel_rfl; exact rfl; clear hs; intro w hs) | ((with_reducible apply st hs.b2); exact rfl; exact rfl; exact rfl; exact rfl; exact rfl; exact rfl; kernel_rfl; exact rfl; clear hs; intro w hs) | ((with_reducible apply st hs.b3); exact rfl; exact rfl; exact rfl; exact rfl; exact rfl; exact rfl; kernel_rfl; exact rfl; clear hs; intro w hs) | ((with_reducible apply stc hs.b0); exact rfl; exact rfl; exact rfl; exact rfl; exact rfl; kernel_rfl; exact rfl; clear hs; intro w hs) | ((with_reducible apply stc hs.b1); exact rfl; exact rfl; exact rfl; exact rfl; exact rfl; kernel_rfl; exact rfl; clear hs; intro w hs) | ((with_reducible apply stc hs.b2); exact rfl; exact rfl; exact rfl; exact rfl; exact rfl; kernel_rfl; exact rfl; clear hs; intro w hs) | ((with_reducible apply stc hs.b3); exact rfl; exact rfl; exact rfl; exact rfl; exact rfl; kernel_rfl; exact rfl; clear hs; intro w hs) | ((with_reducible apply app hs.b1); exact rfl; exact rfl; exact rfl; exact rfl; exact slty34; exact rfl; exact rfl; decide; omega; (unfold maxLen; omega); clear hs; intro g' c' w hs) | ((with_reducible apply app hs.b0); exact rfl; exact rfl; exact rfl; exact rfl; exact slty34; exact rfl; exact rfl; decide; omega; (unfold maxLen; omega); clear hs; intro g' c' w hs) | ((with_reducible apply app hs.b2); exact rfl; exact rfl; exact rfl; exact rfl; exact slty34; exact rfl; exact rfl; decide; omega; (unfold maxLen; omega); clear hs; intro g' c' w hs) | ((with_reducible refine wrap hs ?_); clear hs; intro w hs) | ((with_reducible refine wrapn hs ?_); clear hs; intro w hs) | ((with_reducible refine wrapd hs ?_); clear hs; intro w hs)))
        have hs1 := utO_snoc hs
        go_roundw
        case rel => exact ⟨j + 1, G ++ [x], _, _, by omega, by (rw [List.length_append]; simp; omega), by (rw [List.length_append]; rfl), by go_num, Lib.hid (by rw [but_step HX.out hk, HG.out]), by (refine sb_from ?_ hs1; repeat constructor)⟩
        case measure => simp [intOf]; omega
    · have hjn : j = n := by omega
      obtain rfl : n = j := hjn.symm
      go_wp2_with (first | ((with_reducible refine isl ?_); first | ((with_reducible apply ld hs.b0); exact rfl; exact rfl; exact rfl; exact HL.out; exact one34) | ((with_reducible apply ld hs.b1); exact rfl; exact rfl; exact rfl; exact HL.out; exact one34) | ((with_reducible apply ld hs.b2); exact rfl; exact rfl; exact rfl; exact HL.out; exact one34) | ((with_reducible apply ld hs.b0); exact rfl; exact rfl; exact rfl; exact rfl; kernel_rfl) | ((with_reducible apply ld hs.b1); exact rfl; exact rfl; exact rfl; exact rfl; kernel_rfl) | ((with_reducible apply ld hs.b2); exact rfl; exact rfl; exact rfl; exact rfl; kernel_rfl) | ((with_reducible apply st hs.b0); exact rfl; exact rfl; exact rfl; exact rfl; exact rfl; exact rfl; kernel_rfl; exact rfl; clear hs; intro w hs) | ((with_reducible apply st hs.b1); exact rfl; exact rfl; exact rfl; exact rfl; exact rfl; exact rfl; kernel_rfl; exact rfl; clear hs; intro w hs) | ((with_reducible apply st hs.b2); exact rfl; exact rfl; exact rfl; exact rfl; exact rfl; exact rfl; kernel_rfl; exact rfl; clear hs; intro w hs) | ((with_reducible apply stc hs.b0); exact rfl; exact rfl; exact rfl; exact rfl; exact rfl; kernel_rfl; exact rfl; clear hs; intro w hs) | ((with_reducible apply stc hs.b1); exact rfl; exact rfl; exact rfl; exact rfl; exact rfl; kernel_rfl; exact rfl; clear hs; intro w hs) | ((with_reducible apply stc hs.b2); exact rfl; exact rfl; exact rfl; exact rfl; exact rfl; kernel_rfl; exact rfl; clear hs; intro w hs) | ((with_reducible refine wrap hs ?_); clear hs; intro w hs) | ((with_reducible refine wrapn hs ?_); clear hs; intro w hs) | ((with_reducible refine wrapd hs ?_); clear hs; intro w hs)))
      go_ret
      rw [← HG.out]
      exact ⟨_, _, rfl, hs⟩
abbrev rcl (s : Nat) (a : Option Addr) (n c : Nat) (y : Ut) (on : Bool) (wd last cnt : Int) : List Value := [.int .i64 (s : Int), .slice a n c, .int .i64 y.num, .string y.text, .int .u64 y.fr, .int .u64 y.to_, .int .u8 y.pr, .bool on, .int .i64 wd, .int .u64 last, .int .i64 cnt]
theorem without37 {n k s : Nat} {at_ la ct wd : Int} {y : Ut} {on : Bool} {aW : Option Addr} {cW : Nat} {l : List Ut} (hn : l.length = n) (h100 : n ≤ 1000) (hat : ∀ j : Nat, j < n → (((j : Int) != at_) = false ∧ j = k) ∨ (((j : Int) != at_) = true ∧ j ≠ k)) (hs : sat W (cel b 53 (rcl s aW n cW y on wd la ct) :: own 25 5 (.slice aW n cW) n (uts l) :: H) w) :
    Calls Try.prog 37 #[.pointer (some ⟨b, 0, none⟩), .int .i64 at_] w fun e w' => ∃ a c, e = .returned (.slice a (but l k n).length c) ∧ sat W (utO a c (but l k n) :: cel b 53 (rcl s aW n cW y on wd la ct) :: own 25 5 (.slice aW n cW) n (uts l) :: H) w' :=
  without37_go hn h100 hat hs rfl
theorem rq_close_as {n : Nat} {aW : Option Addr} {cW : Nat} {y : Ut} {on : Bool} {wd : Int} (hn : q.waits.length = n) (hr : RelS q y on wd) (hs : sat W (cel b 53 (rcl q.size aW n cW y on wd q.last q.count) :: own 25 5 (.slice aW n cW) n (uts q.waits) :: H) w) : sat W (rq b q :: H) w := by
  subst hn
  exact hs.rq_close hr
theorem sil22 (hs : sat W (rq b q :: H) w) : Calls Try.prog 22 #[.pointer (some ⟨b, 0, none⟩)] w fun e w' => ∃ a c, e = .returned (.slice a q.waits.length c) ∧ sat W (utO a c q.waits :: rq b { q with waits := [], spoken := [] } :: H) w' := by
  obtain ⟨aW, cW, y, on, wd, hr, hs⟩ := hs.rq_open
  clear hr
  go_enter Try.func22, Try.ntmps22
  go_wp2_with (first | ((with_reducible refine isl ?_); first | ((with_reducible apply ld hs.b0); exact rfl; exact rfl; exact rfl; exact rfl; kernel_rfl) | ((with_reducible apply ld hs.b1); exact rfl; exact rfl; exact rfl; exact rfl; kernel_rfl) | ((with_reducible apply st hs.b0); exact rfl; exact rfl; exact rfl; exact rfl; exact rfl; exact rfl; kernel_rfl; exact rfl; clear hs; intro w hs) | ((with_reducible apply st hs.b1); exact rfl; exact rfl; exact rfl; exact rfl; exact rfl; exact rfl; kernel_rfl; exact rfl; clear hs; intro w hs) | ((with_reducible apply stc hs.b0); exact rfl; exact rfl; exact rfl; exact rfl; exact rfl; kernel_rfl; exact rfl; clear hs; intro w hs) | ((with_reducible apply stc hs.b1); exact rfl; exact rfl; exact rfl; exact rfl; exact rfl; kernel_rfl; exact rfl; clear hs; intro w hs) | ((with_reducible refine wrap hs ?_); clear hs; intro w hs) | ((with_reducible refine wrapn hs ?_); clear hs; intro w hs) | ((with_reducible refine wrapd hs ?_); clear hs; intro w hs)))
  go_ret
  have h1 : sat W (rq b { q with waits := [], spoken := [] } :: utO aW cW q.waits :: H) w := sat.rq_close (q := { q with waits := [], spoken := [] }) (aW := none) (cW := 0) (y := y) (on := false) (wd := wd) (.inl ⟨rfl, rfl⟩) (by have hs := utO_nil hs; (refine sb_from ?_ hs; repeat constructor))
  exact ⟨_, _, rfl, h1.b1⟩
theorem mark21_a {n : Int} (h : q.spoken = []) (hs : sat W (rq b q :: H) w) : Calls Try.prog 21 #[.pointer (some ⟨b, 0, none⟩), .int .i64 n] w fun e w' => e = .returned (.int .i64 6) ∧ sat W (rq b q :: H) w' := by
  obtain ⟨aW, cW, y, on, wd, hr, hs⟩ := hs.rq_open
  have HR := Lib.hid hr
  obtain rfl : on = false := by
    rcases hr with ⟨_, h1⟩ | ⟨h1, _⟩
    · exact h1
    · rw [h] at h1; cases h1
  clear hr h
  go_enter Try.func21, Try.ntmps21
  go_wp2_with (first | ((with_reducible refine isl ?_); first | ((with_reducible apply ld hs.b0); exact rfl; exact rfl; exact rfl; exact rfl; kernel_rfl) | ((with_reducible apply st hs.b0); exact rfl; exact rfl; exact rfl; exact rfl; exact rfl; exact rfl; kernel_rfl; exact rfl; clear hs; intro w hs) | ((with_reducible apply stc hs.b0); exact rfl; exact rfl; exact rfl; exact rfl; exact rfl; kernel_rfl; exact rfl; clear hs; intro w hs) | ((with_reducible refine wrap hs ?_); clear hs; intro w hs) | ((with_reducible refine wrapn hs ?_); clear hs; intro w hs) | ((with_reducible refine wrapd hs ?_); clear hs; intro w hs)))
  go_ret
  exact ⟨rfl, hs.rq_close HR.out⟩
theorem mark21_b {n : Int} {y : Ut} (h : q.spoken = [y]) (hn : n ≤ q.words) (hs : sat W (rq b q :: H) w) : Calls Try.prog 21 #[.pointer (some ⟨b, 0, none⟩), .int .i64 n] w fun e w' => e = .returned (.int .i64 2) ∧ sat W (rq b q :: H) w' := by
  have gB : decide (n ≤ q.words) = true := decide_eq_true hn
  obtain ⟨aW, cW, y', on, wd, hr, hs⟩ := hs.rq_open
  have HR := Lib.hid hr
  obtain ⟨rfl, rfl, rfl⟩ : y' = y ∧ on = true ∧ wd = q.words := by
    rcases hr with ⟨h1, _⟩ | ⟨h1, h2, h3⟩
    · rw [h] at h1; cases h1
    · rw [h] at h1; cases h1; exact ⟨rfl, h2, h3⟩
  clear hr h
  go_enter Try.func21, Try.ntmps21
  go_wp2_with (first | ((with_reducible refine isl ?_); first | ((with_reducible apply ld hs.b0); exact rfl; exact rfl; exact rfl; exact rfl; kernel_rfl) | ((with_reducible apply st hs.b0); exact rfl; exact rfl; exact rfl; exact rfl; exact rfl; exact rfl; kernel_rfl; exact rfl; clear hs; intro w hs) | ((with_reducible apply stc hs.b0); exact rfl; exact rfl; exact rfl; exact rfl; exact rfl; kernel_rfl; exact rfl; clear hs; intro w hs) | ((with_reducible refine wrap hs ?_); clear hs; intro w hs) | ((with_reducible refine wrapn hs ?_); clear hs; intro w hs) | ((with_reducible refine wrapd hs ?_); clear hs; intro w hs)))
  go_ret
  exact ⟨rfl, hs.rq_close HR.out⟩
theorem mark21_c {n : Int} {y : Ut} (h : q.spoken = [y]) (hz : y.text.size ≤ 100000) (hn : ¬ n ≤ q.words) (hm : (wordsOf y.text : Int) < n) (hs : sat W (rq b q :: H) w) : Calls Try.prog 21 #[.pointer (some ⟨b, 0, none⟩), .int .i64 n] w fun e w' => e = .returned (.int .i64 2) ∧ sat W (rq b q :: H) w' := by
  have gB : decide (n ≤ q.words) = false := decide_eq_false hn
  have gC : decide ((wordsOf y.text : Int) < n) = true := decide_eq_true hm
  obtain ⟨aW, cW, y', on, wd, hr, hs⟩ := hs.rq_open
  have HR := Lib.hid hr
  obtain ⟨rfl, rfl, rfl⟩ : y' = y ∧ on = true ∧ wd = q.words := by
    rcases hr with ⟨h1, _⟩ | ⟨h1, h2, h3⟩
    · rw [h] at h1; cases h1
    · rw [h] at h1; cases h1; exact ⟨rfl, h2, h3⟩
  clear hr h
  go_enter Try.func21, Try.ntmps21
  go_wp2_with (first | (go_at_call 38; refine (words38 _ hz hs).mono ?_; clear hs; rintro e w ⟨rfl, hs⟩) | ((with_reducible refine isl ?_); first | ((with_reducible apply ld hs.b0); exact rfl; exact rfl; exact rfl; exact rfl; kernel_rfl) | ((with_reducible apply st hs.b0); exact rfl; exact rfl; exact rfl; exact rfl; exact rfl; exact rfl; kernel_rfl; exact rfl; clear hs; intro w hs) | ((with_reducible apply stc hs.b0); exact rfl; exact rfl; exact rfl; exact rfl; exact rfl; kernel_rfl; exact rfl; clear hs; intro w hs) | ((with_reducible refine wrap hs ?_); clear hs; intro w hs) | ((with_reducible refine wrapn hs ?_); clear hs; intro w hs) | ((with_reducible refine wrapd hs ?_); clear hs; intro w hs)))
  go_ret
  exact ⟨rfl, hs.rq_close HR.out⟩
theorem mark21_d {n : Int} {y : Ut} (h : q.spoken = [y]) (hz : y.text.size ≤ 100000) (hn : ¬ n ≤ q.words) (hm : ¬ (wordsOf y.text : Int) < n) (he : n = (wordsOf y.text : Int)) (hs : sat W (rq b q :: H) w) : Calls Try.prog 21 #[.pointer (some ⟨b, 0, none⟩), .int .i64 n] w fun e w' => e = .returned (.int .i64 0) ∧ sat W (rq b { q with words := n, spoken := [] } :: H) w' := by
  have gB : decide (n ≤ q.words) = false := decide_eq_false hn
  have gC : decide ((wordsOf y.text : Int) < n) = false := decide_eq_false hm
  have g0 : decide (n < (wordsOf y.text : Int)) = false := decide_eq_false (by omega)
  have HE := Lib.hid he
  clear he
  obtain ⟨aW, cW, y', on, wd, hr, hs⟩ := hs.rq_open
  have HR := Lib.hid hr
  obtain ⟨rfl, rfl, rfl⟩ : y' = y ∧ on = true ∧ wd = q.words := by
    rcases hr with ⟨h1, _⟩ | ⟨h1, h2, h3⟩
    · rw [h] at h1; cases h1
    · rw [h] at h1; cases h1; exact ⟨rfl, h2, h3⟩
  clear hr h
  go_enter Try.func21, Try.ntmps21
  go_wp2_with (first | (go_at_call 38; refine (words38 _ hz hs).mono ?_; clear hs; rintro e w ⟨rfl, hs⟩) | ((with_reducible refine isl ?_); first | ((with_reducible apply ld hs.b0); exact rfl; exact rfl; exact rfl; exact rfl; kernel_rfl) | ((with_reducible apply st hs.b0); exact rfl; exact rfl; exact rfl; exact rfl; exact rfl; exact rfl; kernel_rfl; exact rfl; clear hs; intro w hs) | ((with_reducible apply stc hs.b0); exact rfl; exact rfl; exact rfl; exact rfl; exact rfl; kernel_rfl; exact rfl; clear hs; intro w hs) | ((with_reducible refine wrap hs ?_); clear hs; intro w hs) | ((with_reducible refine wrapn hs ?_); clear hs; intro w hs) | ((with_reducible refine wrapd hs ?_); clear hs; intro w hs)))
  go_ret
  exact ⟨rfl, sat.rq_close (q := { q with words := n, spoken := [] }) (y := y') (on := false) (wd := n) (.inl ⟨rfl, rfl⟩) hs⟩
theorem mark21_e {n : Int} {y : Ut} (h : q.spoken = [y]) (hz : y.text.size ≤ 100000) (hn : ¬ n ≤ q.words) (hm : ¬ (wordsOf y.text : Int) < n) (he : ¬ n = (wordsOf y.text : Int)) (hs : sat W (rq b q :: H) w) : Calls Try.prog 21 #[.pointer (some ⟨b, 0, none⟩), .int .i64 n] w fun e w' => e = .returned (.int .i64 0) ∧ sat W (rq b { q with words := n } :: H) w' := by
  have gB : decide (n ≤ q.words) = false := decide_eq_false hn
  have gC : decide ((wordsOf y.text : Int) < n) = false := decide_eq_false hm
  have g0 : decide (n < (wordsOf y.text : Int)) = true := decide_eq_true (by omega)
  have HH := Lib.hid h
  obtain ⟨aW, cW, y', on, wd, hr, hs⟩ := hs.rq_open
  have HR := Lib.hid hr
  obtain ⟨rfl, rfl, rfl⟩ : y' = y ∧ on = true ∧ wd = q.words := by
    rcases hr with ⟨h1, _⟩ | ⟨h1, h2, h3⟩
    · rw [h] at h1; cases h1
    · rw [h] at h1; cases h1; exact ⟨rfl, h2, h3⟩
  clear hr h
  go_enter Try.func21, Try.ntmps21
  go_wp2_with (first | (go_at_call 38; refine (words38 _ hz hs).mono ?_; clear hs; rintro e w ⟨rfl, hs⟩) | ((with_reducible refine isl ?_); first | ((with_reducible apply ld hs.b0); exact rfl; exact rfl; exact rfl; exact rfl; kernel_rfl) | ((with_reducible apply st hs.b0); exact rfl; exact rfl; exact rfl; exact rfl; exact rfl; exact rfl; kernel_rfl; exact rfl; clear hs; intro w hs) | ((with_reducible apply stc hs.b0); exact rfl; exact rfl; exact rfl; exact rfl; exact rfl; kernel_rfl; exact rfl; clear hs; intro w hs) | ((with_reducible refine wrap hs ?_); clear hs; intro w hs) | ((with_reducible refine wrapn hs ?_); clear hs; intro w hs) | ((with_reducible refine wrapd hs ?_); clear hs; intro w hs)))
  go_ret
  exact ⟨rfl, sat.rq_close (q := { q with words := n }) (y := y') (on := true) (wd := n) (.inr ⟨HH.out, rfl, rfl⟩) hs⟩
theorem mark21 {n : Int} (h1 : q.spoken.length ≤ 1) (hl : ∀ y ∈ q.spoken, y.text.size ≤ 100000) (hs : sat W (rq b q :: H) w) : Calls Try.prog 21 #[.pointer (some ⟨b, 0, none⟩), .int .i64 n] w fun e w' => e = .returned (.int .i64 (mark q n).2) ∧ sat W (rq b (mark q n).1 :: H) w' := by
  match hsp : q.spoken, h1 with
  | [], _ =>
    have e : mark q n = (q, 6) := by unfold mark; rw [hsp]
    rw [e]
    exact mark21_a hsp hs
  | [y], _ =>
    have hz : y.text.size ≤ 100000 := hl y (by rw [hsp]; simp)
    by_cases c1 : n ≤ q.words
    · have e : mark q n = (q, 2) := by unfold mark; rw [hsp]; exact if_pos c1
      rw [e]
      exact mark21_b hsp c1 hs
    · by_cases c2 : (wordsOf y.text : Int) < n
      · have e : mark q n = (q, 2) := by unfold mark; rw [hsp]; exact (if_neg c1).trans (if_pos c2)
        rw [e]
        exact mark21_c hsp hz c1 c2 hs
      · by_cases c3 : n = (wordsOf y.text : Int)
        · have e : mark q n = ({ q with words := n, spoken := [] }, 0) := by unfold mark; rw [hsp]; exact (if_neg c1).trans ((if_neg c2).trans (if_pos c3))
          rw [e]
          exact mark21_d hsp hz c1 c2 c3 hs
        · have e : mark q n = ({ q with words := n }, 0) := by unfold mark; rw [hsp]; exact (if_neg c1).trans ((if_neg c2).trans (if_neg c3))
          rw [e]
          exact mark21_e hsp hz c1 c2 c3 hs
theorem erase_but {l : List Ut} {n k : Nat} (h : l.length = n) : but l k n = l.eraseIdx k := by rw [← h, but_all]
set_option maxHeartbeats 2000000 in
theorem acc20 (hq : q.waits.length ≤ 1000) (hp : Pri q) (hs : sat W (rq b q :: H) w) : Calls Try.prog 20 #[.pointer (some ⟨b, 0, none⟩)] w fun e w' => e = .returned (.tuple #[utV ((accept q).2.getD ut0), .bool (accept q).2.isSome]) ∧ sat W (rq b (accept q).1 :: H) w' := by
  obtain ⟨aW, cW, y, on, wd, hr, hs⟩ := hs.rq_open
  have HR := Lib.hid hr
  have HP := Lib.hid hp
  obtain ⟨n, hn⟩ : ∃ n, q.waits.length = n := ⟨_, rfl⟩
  have HN := Lib.hid hn
  replace hs : sat W (cel b 53 [.int .i64 (q.size : Int), .slice aW n cW, .int .i64 y.num, .string y.text, .int .u64 y.fr, .int .u64 y.to_, .int .u8 y.pr, .bool on, .int .i64 wd, .int .u64 q.last, .int .i64 q.count] :: own 25 5 (.slice aW n cW) n (uts q.waits) :: H) w := by rw [← hn]; exact hs
  rw [hn] at hq
  clear hr hp hn
  go_enter Try.func20, Try.ntmps20
  go_wp2_with (first | ((with_reducible refine isl ?_); first | ((with_reducible apply ld hs.b0); exact rfl; exact rfl; exact rfl; exact rfl; kernel_rfl) | ((with_reducible apply ld hs.b1); exact rfl; exact rfl; exact rfl; exact rfl; kernel_rfl) | ((with_reducible apply ld hs.b2); exact rfl; exact rfl; exact rfl; exact rfl; kernel_rfl) | ((with_reducible apply st hs.b0); exact rfl; exact rfl; exact rfl; exact rfl; exact rfl; exact rfl; kernel_rfl; exact rfl; clear hs; intro w hs) | ((with_reducible apply st hs.b1); exact rfl; exact rfl; exact rfl; exact rfl; exact rfl; exact rfl; kernel_rfl; exact rfl; clear hs; intro w hs) | ((with_reducible apply st hs.b2); exact rfl; exact rfl; exact rfl; exact rfl; exact rfl; exact rfl; kernel_rfl; exact rfl; clear hs; intro w hs) | ((with_reducible apply stc hs.b0); exact rfl; exact rfl; exact rfl; exact rfl; exact rfl; kernel_rfl; exact rfl; clear hs; intro w hs) | ((with_reducible apply stc hs.b1); exact rfl; exact rfl; exact rfl; exact rfl; exact rfl; kernel_rfl; exact rfl; clear hs; intro w hs) | ((with_reducible apply stc hs.b2); exact rfl; exact rfl; exact rfl; exact rfl; exact rfl; kernel_rfl; exact rfl; clear hs; intro w hs) | ((with_reducible refine wrap hs ?_); clear hs; intro w hs) | ((with_reducible refine wrapn hs ?_); clear hs; intro w hs) | ((with_reducible refine wrapd hs ?_); clear hs; intro w hs)))
  have hs := hs.made (T := 25) (l := [.int .i64 0, .string ⟨#[]⟩, .int .u64 0, .int .u64 0, .int .u8 0])
  generalize World.alloc w _ = w1 at hs ⊢
  generalize w.heap.size = z2 at hs ⊢
  go_loopw [4] (fun v wr => ∃ p : Int, -1 ≤ p ∧ p ≤ 2 ∧ v = .int .i64 p ∧ Hid (∀ i, i < n → prio q.waits i ≤ p) ∧ sat W (cel z2 25 (utC ut0) :: cel b 53 [.int .i64 (q.size : Int), .slice aW n cW, .int .i64 y.num, .string y.text, .int .u64 y.fr, .int .u64 y.to_, .int .u8 y.pr, .bool on, .int .i64 wd, .int .u64 q.last, .int .i64 q.count] :: own 25 5 (.slice aW n cW) n (uts q.waits) :: H) wr) (fun v _ => (intOf v + 1).toNat)
  case atStart => exact ⟨2, by omega, by omega, rfl, Lib.hid fun i hi => (pri_get HP.out (by rw [HN.out]; exact hi)).2, hs⟩
  case round =>
    clear hs
    obtain ⟨p, hp1, hp2, rfl, HF, hs⟩ := hrel
    by_cases hp0 : 0 ≤ p
    · go_wp2_with (first | ((with_reducible refine isl ?_); first | ((with_reducible apply ld hs.b0); exact rfl; exact rfl; exact rfl; exact rfl; kernel_rfl) | ((with_reducible apply ld hs.b1); exact rfl; exact rfl; exact rfl; exact rfl; kernel_rfl) | ((with_reducible apply ld hs.b2); exact rfl; exact rfl; exact rfl; exact rfl; kernel_rfl) | ((with_reducible apply st hs.b0); exact rfl; exact rfl; exact rfl; exact rfl; exact rfl; exact rfl; kernel_rfl; exact rfl; clear hs; intro w hs) | ((with_reducible apply st hs.b1); exact rfl; exact rfl; exact rfl; exact rfl; exact rfl; exact rfl; kernel_rfl; exact rfl; clear hs; intro w hs) | ((with_reducible apply st hs.b2); exact rfl; exact rfl; exact rfl; exact rfl; exact rfl; exact rfl; kernel_rfl; exact rfl; clear hs; intro w hs) | ((with_reducible apply stc hs.b0); exact rfl; exact rfl; exact rfl; exact rfl; exact rfl; kernel_rfl; exact rfl; clear hs; intro w hs) | ((with_reducible apply stc hs.b1); exact rfl; exact rfl; exact rfl; exact rfl; exact rfl; kernel_rfl; exact rfl; clear hs; intro w hs) | ((with_reducible apply stc hs.b2); exact rfl; exact rfl; exact rfl; exact rfl; exact rfl; kernel_rfl; exact rfl; clear hs; intro w hs) | ((with_reducible refine wrap hs ?_); clear hs; intro w hs) | ((with_reducible refine wrapn hs ?_); clear hs; intro w hs) | ((with_reducible refine wrapd hs ?_); clear hs; intro w hs)))
      go_loopw [5] (fun v wr2 => ∃ j : Nat, j ≤ n ∧ v = .int .i64 (j : Int) ∧ Hid (∀ i, i < j → prio q.waits i ≠ p) ∧ sat W (cel z2 25 (utC ut0) :: cel b 53 [.int .i64 (q.size : Int), .slice aW n cW, .int .i64 y.num, .string y.text, .int .u64 y.fr, .int .u64 y.to_, .int .u8 y.pr, .bool on, .int .i64 wd, .int .u64 q.last, .int .i64 q.count] :: own 25 5 (.slice aW n cW) n (uts q.waits) :: H) wr2) (fun v _ => ((n : Int) - intOf v).toNat)
      case atStart => exact ⟨0, Nat.zero_le _, rfl, Lib.hid (fun i hi => by omega), hs⟩
      case round =>
        clear hs
        obtain ⟨j, hj, rfl, HJ, hs⟩ := hrel
        by_cases hjn : j < n
        · obtain ⟨x, hx⟩ : ∃ x, q.waits[j]? = some x := ⟨_, List.getElem?_eq_getElem (by rw [HN.out]; exact hjn)⟩
          have HX := Lib.hid hx
          have hpr := pri_get HP.out (i := j) (by rw [HN.out]; exact hjn)
          rw [prio_get hx] at hpr
          obtain ⟨hx1, hx2⟩ := hpr
          have HG := Lib.hid (uts_pr hx)
          clear hx
          obtain ⟨g, cW', e⟩ := hs.b2.own_some (by omega)
          cases e
          by_cases hxp : x.pr = p
          · have HB : Hid (accept q = ({ q with waits := q.waits.eraseIdx j, spoken := [x], words := 0 }, some x)) := Lib.hid (by
              have hb : bestAt q.waits = j := best_is (by rw [HN.out]; exact hjn) (fun i hi => by rw [prio_get HX.out, hxp]; exact HF.out i (by rw [← HN.out]; exact hi)) (fun i hi => by rw [prio_get HX.out, hxp]; exact HJ.out i hi)
              unfold accept
              rw [hb, HX.out])
            have HK : Hid (∀ i : Nat, i < n → (((i : Int) != (j : Int)) = false ∧ i = j) ∨ (((i : Int) != (j : Int)) = true ∧ i ≠ j)) := Lib.hid fun i _ => by
              by_cases h : i = j
              · left; subst h; simp
              · right; exact ⟨by simp; omega, h⟩
            have g0 : (x.pr == p) = true := by rw [hxp]; simp
            obtain ⟨pp, hpp⟩ : ∃ pp, p = pp := ⟨_, rfl⟩
            go_wp2_with (first | (first | (((with_reducible apply ldsc (cs := utC x)); exact rfl; exact rfl; exact rfl; exact uts_range hs.b0 HX.out; exact row25)) | (((with_reducible apply ldsc (cs := utC x)); exact rfl; exact rfl; exact rfl; exact uts_range hs.b1 HX.out; exact row25)) | (((with_reducible apply ldsc (cs := utC x)); exact rfl; exact rfl; exact rfl; exact uts_range hs.b2 HX.out; exact row25)) | (((with_reducible apply ldsc (cs := utC x)); exact rfl; exact rfl; exact rfl; exact uts_range hs.b3 HX.out; exact row25))) | (first | ((with_reducible apply ldo hs.b0); exact rfl; exact rfl; exact rfl; exact HG.out; exact one5) | ((with_reducible apply ldo hs.b1); exact rfl; exact rfl; exact rfl; exact HG.out; exact one5) | ((with_reducible apply ldo hs.b2); exact rfl; exact rfl; exact rfl; exact HG.out; exact one5) | ((with_reducible apply ldo hs.b3); exact rfl; exact rfl; exact rfl; exact HG.out; exact one5)) | (go_at_call 37; refine (without37 HN.out hq HK.out (by (apply sk_from (hs := hs); repeat constructor))).mono ?_; clear hs; rintro e w ⟨a5, c5, rfl, hs⟩) | (first | ((with_reducible apply sts hs.b0); exact rfl; exact rfl; exact rfl; exact rfl; exact row25; (show 2 + 5 ≤ 11; decide); exact rfl; exact rfl; clear hs; intro w hs) | ((with_reducible apply sts hs.b1); exact rfl; exact rfl; exact rfl; exact rfl; exact row25; (show 2 + 5 ≤ 11; decide); exact rfl; exact rfl; clear hs; intro w hs) | ((with_reducible apply sts hs.b2); exact rfl; exact rfl; exact rfl; exact rfl; exact row25; (show 2 + 5 ≤ 11; decide); exact rfl; exact rfl; clear hs; intro w hs) | ((with_reducible apply sts hs.b3); exact rfl; exact rfl; exact rfl; exact rfl; exact row25; (show 2 + 5 ≤ 11; decide); exact rfl; exact rfl; clear hs; intro w hs) | ((with_reducible apply sts hs.b4); exact rfl; exact rfl; exact rfl; exact rfl; exact row25; (show 2 + 5 ≤ 11; decide); exact rfl; exact rfl; clear hs; intro w hs)) | (first | ((with_reducible apply ldsw hs.b0); exact rfl; exact rfl; exact rfl; exact row25) | ((with_reducible apply ldsw hs.b1); exact rfl; exact rfl; exact rfl; exact row25) | ((with_reducible apply ldsw hs.b2); exact rfl; exact rfl; exact rfl; exact row25) | ((with_reducible apply ldsw hs.b3); exact rfl; exact rfl; exact rfl; exact row25) | ((with_reducible apply ldsw hs.b4); exact rfl; exact rfl; exact rfl; exact row25) | ((with_reducible apply ldsw hs.b5); exact rfl; exact rfl; exact rfl; exact row25)) | (first | ((with_reducible apply stsw hs.b0); exact rfl; exact rfl; exact rfl; exact rfl; exact row25; exact rfl; exact rfl; exact rfl; clear hs; intro w hs) | ((with_reducible apply stsw hs.b1); exact rfl; exact rfl; exact rfl; exact rfl; exact row25; exact rfl; exact rfl; exact rfl; clear hs; intro w hs) | ((with_reducible apply stsw hs.b2); exact rfl; exact rfl; exact rfl; exact rfl; exact row25; exact rfl; exact rfl; exact rfl; clear hs; intro w hs) | ((with_reducible apply stsw hs.b3); exact rfl; exact rfl; exact rfl; exact rfl; exact row25; exact rfl; exact rfl; exact rfl; clear hs; intro w hs) | ((with_reducible apply stsw hs.b4); exact rfl; exact rfl; exact rfl; exact rfl; exact row25; exact rfl; exact rfl; exact rfl; clear hs; intro w hs) | ((with_reducible apply stsw hs.b5); exact rfl; exact rfl; exact rfl; exact rfl; exact row25; exact rfl; exact rfl; exact rfl; clear hs; intro w hs)) | ((with_reducible refine isl ?_); first | ((with_reducible refine wrap hs ?_); clear hs; generalize wr.heap.size = z6; intro w hs) | ((with_reducible apply ld hs.b0); exact rfl; exact rfl; exact rfl; exact rfl; kernel_rfl) | ((with_reducible apply ld hs.b1); exact rfl; exact rfl; exact rfl; exact rfl; kernel_rfl) | ((with_reducible apply ld hs.b2); exact rfl; exact rfl; exact rfl; exact rfl; kernel_rfl) | ((with_reducible apply ld hs.b3); exact rfl; exact rfl; exact rfl; exact rfl; kernel_rfl) | ((with_reducible apply ld hs.b4); exact rfl; exact rfl; exact rfl; exact rfl; kernel_rfl) | ((with_reducible apply st hs.b0); exact rfl; exact rfl; exact rfl; exact rfl; exact rfl; exact rfl; kernel_rfl; exact rfl; clear hs; intro w hs) | ((with_reducible apply st hs.b1); exact rfl; exact rfl; exact rfl; exact rfl; exact rfl; exact rfl; kernel_rfl; exact rfl; clear hs; intro w hs) | ((with_reducible apply st hs.b2); exact rfl; exact rfl; exact rfl; exact rfl; exact rfl; exact rfl; kernel_rfl; exact rfl; clear hs; intro w hs) | ((with_reducible apply st hs.b3); exact rfl; exact rfl; exact rfl; exact rfl; exact rfl; exact rfl; kernel_rfl; exact rfl; clear hs; intro w hs) | ((with_reducible apply st hs.b4); exact rfl; exact rfl; exact rfl; exact rfl; exact rfl; exact rfl; kernel_rfl; exact rfl; clear hs; intro w hs) | ((with_reducible apply stc hs.b0); exact rfl; exact rfl; exact rfl; exact rfl; exact rfl; kernel_rfl; exact rfl; clear hs; intro w hs) | ((with_reducible apply stc hs.b1); exact rfl; exact rfl; exact rfl; exact rfl; exact rfl; kernel_rfl; exact rfl; clear hs; intro w hs) | ((with_reducible apply stc hs.b2); exact rfl; exact rfl; exact rfl; exact rfl; exact rfl; kernel_rfl; exact rfl; clear hs; intro w hs) | ((with_reducible apply stc hs.b3); exact rfl; exact rfl; exact rfl; exact rfl; exact rfl; kernel_rfl; exact rfl; clear hs; intro w hs) | ((with_reducible apply stc hs.b4); exact rfl; exact rfl; exact rfl; exact rfl; exact rfl; kernel_rfl; exact rfl; clear hs; intro w hs) | ((with_reducible refine wrap hs ?_); clear hs; intro w hs) | ((with_reducible refine wrapn hs ?_); clear hs; intro w hs) | ((with_reducible refine wrapd hs ?_); clear hs; intro w hs)))
            rw [HB.out]
            refine ret_cell_tmp (l := utC x) hs rfl rfl rfl row25 ⟨rfl, ?_⟩
            replace hs := hs.drop
            rw [erase_but HN.out] at hs
            exact sat.rq_close (q := { q with waits := q.waits.eraseIdx j, spoken := [x], words := 0 }) (y := x) (on := true) (wd := 0) (.inr ⟨rfl, rfl, rfl⟩) (by (refine sb_from ?_ hs; repeat constructor))
          · have g0 : (x.pr == p) = false := beq_no hxp
            go_wp2_with (first | (first | ((with_reducible apply ldo hs.b0); exact rfl; exact rfl; exact rfl; exact HG.out; exact one5) | ((with_reducible apply ldo hs.b1); exact rfl; exact rfl; exact rfl; exact HG.out; exact one5) | ((with_reducible apply ldo hs.b2); exact rfl; exact rfl; exact rfl; exact HG.out; exact one5) | ((with_reducible apply ldo hs.b3); exact rfl; exact rfl; exact rfl; exact HG.out; exact one5)) | ((with_reducible refine isl ?_); first | ((with_reducible apply ld hs.b0); exact rfl; exact rfl; exact rfl; exact rfl; kernel_rfl) | ((with_reducible apply ld hs.b1); exact rfl; exact rfl; exact rfl; exact rfl; kernel_rfl) | ((with_reducible apply ld hs.b2); exact rfl; exact rfl; exact rfl; exact rfl; kernel_rfl) | ((with_reducible apply st hs.b0); exact rfl; exact rfl; exact rfl; exact rfl; exact rfl; exact rfl; kernel_rfl; exact rfl; clear hs; intro w hs) | ((with_reducible apply st hs.b1); exact rfl; exact rfl; exact rfl; exact rfl; exact rfl; exact rfl; kernel_rfl; exact rfl; clear hs; intro w hs) | ((with_reducible apply st hs.b2); exact rfl; exact rfl; exact rfl; exact rfl; exact rfl; exact rfl; kernel_rfl; exact rfl; clear hs; intro w hs) | ((with_reducible apply stc hs.b0); exact rfl; exact rfl; exact rfl; exact rfl; exact rfl; kernel_rfl; exact rfl; clear hs; intro w hs) | ((with_reducible apply stc hs.b1); exact rfl; exact rfl; exact rfl; exact rfl; exact rfl; kernel_rfl; exact rfl; clear hs; intro w hs) | ((with_reducible apply stc hs.b2); exact rfl; exact rfl; exact rfl; exact rfl; exact rfl; kernel_rfl; exact rfl; clear hs; intro w hs) | ((with_reducible refine wrap hs ?_); clear hs; intro w hs) | ((with_reducible refine wrapn hs ?_); clear hs; intro w hs) | ((with_reducible refine wrapd hs ?_); clear hs; intro w hs)))
            go_roundw
            case rel => exact ⟨j + 1, by omega, by go_num, Lib.hid (fun i hi => by
              rcases Nat.lt_or_ge i j with h | h
              · exact HJ.out i h
              · obtain rfl : i = j := by omega
                rw [prio_get HX.out]; exact hxp), hs⟩
            case measure => simp [intOf]; omega
        · have hjn : j = n := by omega
          obtain rfl : n = j := hjn.symm
          go_wp2_with (first | ((with_reducible refine isl ?_); first | ((with_reducible apply ld hs.b0); exact rfl; exact rfl; exact rfl; exact rfl; kernel_rfl) | ((with_reducible apply ld hs.b1); exact rfl; exact rfl; exact rfl; exact rfl; kernel_rfl) | ((with_reducible apply ld hs.b2); exact rfl; exact rfl; exact rfl; exact rfl; kernel_rfl) | ((with_reducible apply st hs.b0); exact rfl; exact rfl; exact rfl; exact rfl; exact rfl; exact rfl; kernel_rfl; exact rfl; clear hs; intro w hs) | ((with_reducible apply st hs.b1); exact rfl; exact rfl; exact rfl; exact rfl; exact rfl; exact rfl; kernel_rfl; exact rfl; clear hs; intro w hs) | ((with_reducible apply st hs.b2); exact rfl; exact rfl; exact rfl; exact rfl; exact rfl; exact rfl; kernel_rfl; exact rfl; clear hs; intro w hs) | ((with_reducible apply stc hs.b0); exact rfl; exact rfl; exact rfl; exact rfl; exact rfl; kernel_rfl; exact rfl; clear hs; intro w hs) | ((with_reducible apply stc hs.b1); exact rfl; exact rfl; exact rfl; exact rfl; exact rfl; kernel_rfl; exact rfl; clear hs; intro w hs) | ((with_reducible apply stc hs.b2); exact rfl; exact rfl; exact rfl; exact rfl; exact rfl; kernel_rfl; exact rfl; clear hs; intro w hs) | ((with_reducible refine wrap hs ?_); clear hs; intro w hs) | ((with_reducible refine wrapn hs ?_); clear hs; intro w hs) | ((with_reducible refine wrapd hs ?_); clear hs; intro w hs)))
          go_roundw
          case rel => exact ⟨p - 1, by omega, by omega, by go_num, Lib.hid (fun i hi => by have h1 := HF.out i hi; have h2 := HJ.out i hi; omega), hs⟩
          case measure => simp [intOf]; omega
    · obtain rfl : p = -1 := by omega
      have hw : q.waits = [] := by
        apply List.eq_nil_of_length_eq_zero
        rcases Nat.eq_zero_or_pos n with h | h
        · rw [HN.out]; exact h
        · have h1 := HF.out 0 h
          have h2 := (pri_get HP.out (i := 0) (by rw [HN.out]; exact h)).1
          omega
      have HB : Hid (accept q = (q, none)) := Lib.hid (by unfold accept; rw [hw]; rfl)
      clear hw
      go_wp2_with (first | (first | ((with_reducible apply stsw hs.b0); exact rfl; exact rfl; exact rfl; exact rfl; exact row25; exact rfl; exact rfl; exact rfl; clear hs; intro w hs) | ((with_reducible apply stsw hs.b1); exact rfl; exact rfl; exact rfl; exact rfl; exact row25; exact rfl; exact rfl; exact rfl; clear hs; intro w hs) | ((with_reducible apply stsw hs.b2); exact rfl; exact rfl; exact rfl; exact rfl; exact row25; exact rfl; exact rfl; exact rfl; clear hs; intro w hs)) | ((with_reducible refine isl ?_); first | ((with_reducible apply ld hs.b0); exact rfl; exact rfl; exact rfl; exact rfl; kernel_rfl) | ((with_reducible apply ld hs.b1); exact rfl; exact rfl; exact rfl; exact rfl; kernel_rfl) | ((with_reducible apply ld hs.b2); exact rfl; exact rfl; exact rfl; exact rfl; kernel_rfl) | ((with_reducible apply st hs.b0); exact rfl; exact rfl; exact rfl; exact rfl; exact rfl; exact rfl; kernel_rfl; exact rfl; clear hs; intro w hs) | ((with_reducible apply st hs.b1); exact rfl; exact rfl; exact rfl; exact rfl; exact rfl; exact rfl; kernel_rfl; exact rfl; clear hs; intro w hs) | ((with_reducible apply st hs.b2); exact rfl; exact rfl; exact rfl; exact rfl; exact rfl; exact rfl; kernel_rfl; exact rfl; clear hs; intro w hs) | ((with_reducible apply stc hs.b0); exact rfl; exact rfl; exact rfl; exact rfl; exact rfl; kernel_rfl; exact rfl; clear hs; intro w hs) | ((with_reducible apply stc hs.b1); exact rfl; exact rfl; exact rfl; exact rfl; exact rfl; kernel_rfl; exact rfl; clear hs; intro w hs) | ((with_reducible apply stc hs.b2); exact rfl; exact rfl; exact rfl; exact rfl; exact rfl; kernel_rfl; exact rfl; clear hs; intro w hs) | ((with_reducible refine wrap hs ?_); clear hs; intro w hs) | ((with_reducible refine wrapn hs ?_); clear hs; intro w hs) | ((with_reducible refine wrapd hs ?_); clear hs; intro w hs)))
      rw [HB.out]
      refine ret_cell_tmp (l := utC ut0) hs rfl rfl rfl row25 ⟨rfl, ?_⟩
      exact rq_close_as HN.out HR.out hs.drop
end Go.Proofs.Ytinfgebdcjaabaa
