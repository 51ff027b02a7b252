/- Law 20: Cover's walk. -/
import Derived.Test.YtdbaiioeaffgaaaW16
import Derived.Test.YtdbaiioeaffgaaaW17
import Derived.Test.YtdbaiioeaffgaaaSo
namespace Go.Proofs.Ytdbaiioeaffgaaa
open Go.RowKit Go.Mem Go.Words Go.Deep
variable {W w : World} {H : List HProp}
theorem info3 : (Try.prog.info? 3).map (fun i => (i.zero, i.size, i.bytes)) = some (some (.int .i64 0), 1, 8) := by kernel_rfl
/-- The numbers F 0, F 1, .. -/
def rng (n : Nat) (F : Nat → Nat) : List Nat := (List.range n).map F
theorem rng_len (n : Nat) (F : Nat → Nat) : (rng n F).length = n := by simp [rng]
theorem rng_get {n c : Nat} (F : Nat → Nat) (h : c < n) : (nums .i64 (rng n F))[c]? = some (.int .i64 (F c : Nat)) := by simp [nums, rng, h]
theorem rng_zero (n : Nat) : List.replicate n (Value.int .i64 0) = nums .i64 (rng n (fun _ => 0)) := by
  apply List.ext_getElem (by simp [nums, rng])
  intro i h1 h2
  simp [nums, rng]
theorem rng_set {n c : Nat} {F : Nat → Nat} (v : Nat) (h : c < n) : (nums .i64 (rng n F)).set c (.int .i64 ((v : Nat) : Int)) = nums .i64 (rng n (fun j => if j = c then v else F j)) := by
  apply List.ext_getElem (by simp [nums, rng])
  intro i h1 h2
  have hi : i < n := by simpa [nums, rng] using h2
  rw [List.getElem_set]
  by_cases e : c = i
  · subst e; simp [nums, rng]
  · rw [if_neg e]; simp [nums, rng, Ne.symm e]
def part (ws : List (Nat × Nat)) (x : Nat × Nat) (c : Nat) (j : Nat) : Nat := cnt ws j + (if x.1 ≤ j ∧ j < c then 1 else 0)
theorem part_start {ws : List (Nat × Nat)} {x1 x2 : Nat} : part ws (x1, x2) x1 = cnt ws := by
  funext j
  unfold part
  rw [if_neg (by simp only; omega), Nat.add_zero]
theorem part_at {ws : List (Nat × Nat)} {x1 x2 c : Nat} : part ws (x1, x2) c c = cnt ws c := by
  unfold part
  rw [if_neg (by simp only; omega), Nat.add_zero]
theorem part_step {n : Nat} {ws : List (Nat × Nat)} {x : Nat × Nat} {c : Nat} (h1 : x.1 ≤ c) (h2 : c < x.2) : rng n (fun j => if j = c then cnt ws c + 1 else part ws x c j) = rng n (part ws x (c + 1)) := by
  unfold rng
  congr 1
  funext j
  unfold part
  by_cases e : j = c
  · subst e; rw [if_pos rfl, if_pos (by omega)]
  · rw [if_neg e]
    by_cases h3 : x.1 ≤ j ∧ j < c
    · rw [if_pos h3, if_pos (by omega)]
    · rw [if_neg h3, if_neg (by omega)]
theorem part_end {ws : List (Nat × Nat)} {i : Nat} {x : Nat × Nat} (h : ws[i]? = some x) : part (ws.take i) x x.2 = cnt (ws.take (i + 1)) := by
  funext j
  have hi := (List.getElem?_eq_some_iff.1 h).1
  rw [List.take_succ_eq_append_getElem hi, (List.getElem?_eq_some_iff.1 h).2, cnt_snoc]
  rfl
theorem ext_cell {W w : World} {H : List HProp} {g n c k : Nat} {L : List (Nat × Nat)} {x : Nat × Nat} (hs : sat W (own 41 2 (.slice (some ⟨g, 0, none⟩) n c) n (exs L) :: H) w) (h : L[k]? = some x) : w.rangeAt g (k * 2) (exC x) := by
  obtain ⟨_, b, off, e, h2⟩ := (exs_sr hs).2.2.2 w hs k (exC x) (by rw [List.getElem?_map, h]; rfl)
  cases e
  rwa [Nat.zero_add] at h2
theorem word_t {t : Nat} {x : Tx} {ws : List (Nat × Nat)} {col : Int} {y : Nat × Nat} (e : words x.blank = ws) (e2 : wordW ws col = some y) (hn : x.blank.length ≤ 1000) (hs : sat W (tx t x :: H) w) : Calls Try.prog 17 #[.pointer (some ⟨t, 0, none⟩), .int .i64 col] w fun e w' => e = .returned (.tuple #[exV y, .bool true]) ∧ sat W (tx t x :: H) w' := by
  have := word17 (Hc := [tx t x]) (ws_tx e hn) col hs
  rw [e2] at this
  exact this
attribute [local irreducible] World.setCell World.setCells World.alloc World.drew World.drewN Calls sat cel own blk old wpQuiet wpList tx
variable {a : Option Addr} {n cp : Nat} {L : List Cm}
theorem cover_great (hc : CS W H a n cp L) (hz : size (cl L) ≤ 2000000) (hg : 600 < size (cl L)) (hs : sat W H w) : Calls Try.prog 4 #[.slice a n cp] w fun e w' => e = .returned (.bool true) ∧ sat W H w' := by
  have HC := Lib.hid hc
  have HG := Lib.hid (show decide (600 < size (cl L)) = true by simpa using hg)
  have HZ := Lib.hid hz
  clear hc hg hz
  go_enter Try.func4, Try.ntmps4
  go_wp2_with (first | (go_at_call 7; refine (great_t HG.out HC.out HZ.out hs).mono ?_; clear hs; rintro e w ⟨rfl, hs⟩) | (go_at_call 8; refine (known8 hs).mono ?_; clear hs; rintro e w ⟨rfl, hs⟩) | ((with_reducible refine isl ?_); first | ((with_reducible refine wrap hs ?_); clear hs; intro w hs) | ((with_reducible refine wrapn hs ?_); clear hs; intro w hs) | ((with_reducible refine wrapd hs ?_); clear hs; intro w hs)))
  go_ret
  exact ⟨rfl, hs⟩
set_option maxHeartbeats 8000000 in
set_option maxRecDepth 10000 in
theorem cover_walk (hc : CS W H a n cp L) (hz : size (cl L) ≤ 600) (hs : sat W H w) : Calls Try.prog 4 #[.slice a n cp] w fun e w' => e = .returned (.bool true) ∧ sat W H w' := by
  have hn0 := hc.len.1
  have hn : n ≤ 600 := by have := len_size (cl L); rw [List.length_map] at this; omega
  have HN := Lib.hid (show (cl L).length = n by rw [List.length_map, hn0])
  have HC := Lib.hid hc
  have HZ := Lib.hid hz
  have HG := Lib.hid (show decide (600 < size (cl L)) = false by simpa using hz)
  have hbl : (textOf (cl L)).blank = (cl L).map isB := tx_cells _
  have HZ2 : Hid (size (cl L) ≤ 2000000) := Lib.hid (by omega)
  obtain ⟨x, hx⟩ : ∃ x, textOf (cl L) = x := ⟨_, rfl⟩
  rw [hx] at hbl
  have HT := Lib.hid hx
  have HBL := Lib.hid hbl
  have hbn : x.blank.length = n := by rw [hbl, List.length_map, List.length_map, hn0]
  have HB := Lib.hid hbn
  have HK2 : Hid (x.blank.length ≤ 1000) := Lib.hid (by omega)
  obtain ⟨ws, hws⟩ : ∃ ws, words x.blank = ws := ⟨_, rfl⟩
  have HWS := Lib.hid hws
  have HOK : Hid (WsOk x.blank 0 ws) := Lib.hid (hws ▸ ws_ok _)
  have hwl : ws.length ≤ n := by have := words_len x.blank _ 0 rfl; rw [← hws]; unfold words; omega
  obtain ⟨nW, hnW⟩ : ∃ k, ws.length = k := ⟨_, rfl⟩
  rw [hnW] at hwl
  have HLw := Lib.hid hnW
  clear hc hz hn0 hx hbl hbn hws hnW
  go_enter Try.func4, Try.ntmps4
  go_wp2_with (first | (go_at_call 7; refine (great_t HG.out HC.out HZ2.out hs).mono ?_; clear hs; rintro e w ⟨rfl, hs⟩) | (go_at_call 9; refine (of9_t HT.out HC.out HZ.out hs).mono ?_; clear hs; rintro e w ⟨t, rfl, hs⟩) | (go_at_call 14; refine (words_t HWS.out HLw.out HK2.out hs).mono ?_; clear hs; rintro e w ⟨aW, cW, rfl, hs⟩) | (apply mks hs; exact rfl; exact rfl; exact rfl; exact rfl; exact Try.underlying39; exact info3; exact rfl; omega; (unfold maxLen; omega); clear hs; intro gI w hs; rw [rng_zero] at hs) | ((with_reducible refine isl ?_); first | ((with_reducible refine wrap hs ?_); clear hs; intro w hs) | ((with_reducible refine wrapn hs ?_); clear hs; intro w hs) | ((with_reducible refine wrapd hs ?_); clear hs; intro w hs)))
  replace hs : sat W (own 41 2 (.slice aW nW cW) nW (exs ws) :: own 3 1 (.slice (some ⟨gI, 0, none⟩) n n) n (nums .i64 (rng n (cnt (ws.take 0)))) :: tx t x :: H) w := by
    have e : (fun _ : Nat => 0) = cnt (ws.take 0) := by funext j; rfl
    rw [e] at hs
    (refine sat_from ?_ hs; repeat (first | exact Sub.refl _ | exact Sub.nil _ | refine Sub.c0 ?_ | refine Sub.c1 ?_ | refine Sub.c2 ?_ | refine Sub.c3 ?_ | refine Sub.c4 ?_ | refine Sub.c5 ?_ | refine Sub.c6 ?_ | refine Sub.c7 ?_ | refine Sub.c8 ?_ | refine Sub.c9 ?_ | refine Sub.skip ?_))
  go_loopw [26] (fun i wr => ∃ k : Nat, k ≤ nW ∧ i = .int .i64 (k : Int) ∧ sat W (own 41 2 (.slice aW nW cW) nW (exs ws) :: own 3 1 (.slice (some ⟨gI, 0, none⟩) n n) n (nums .i64 (rng n (cnt (ws.take k)))) :: tx t x :: H) wr) (fun i _ => ((nW : Int) - intOf i).toNat)
  case atStart => exact ⟨0, Nat.zero_le _, rfl, hs⟩
  case round =>
    clear hs
    obtain ⟨k, hk, rfl, hs⟩ := hrel
    by_cases hlt : k < nW
    · obtain ⟨gW, cW2, e⟩ := hs.own_some (by omega)
      cases e
      obtain ⟨⟨x1, x2⟩, hxi⟩ : ∃ y, ws[k]? = some y := ⟨_, List.getElem?_eq_getElem (by have := HLw.out; omega)⟩
      have HXi := Lib.hid hxi
      obtain ⟨_, hx12, hx2n⟩ := HOK.out.each _ (List.mem_of_getElem? hxi)
      simp only at hx12 hx2n
      rw [HB.out] at hx2n
      clear hxi
      have g0 : decide ((x1 : Int) < 0) = false := by simp
      have g1 : decide (x2 ≤ x1) = false := by simp; omega
      have g2 : decide (n < x2) = false := by simp; omega
      by_cases hk0 : k = 0
      · obtain rfl : k = 0 := by omega
        have H16 : Hid (prevW ws x1 = -1) := Lib.hid (by have := cover_prev HOK.out HXi.out; rwa [if_neg (by omega)] at this)
        have HPv := HXi
        go_upto_region 11 with (first | ((try simp only [Act.put, List.setIfInBounds_toArray, List.set_cons_succ, List.set_cons_zero]); refine region_sat hs (by kernel_rfl) (by kernel_rfl) ?_; intro X f hne hf hcl; (repeat (first | (apply ldcq; exact rfl; exact rfl; exact rfl; exact fun x => ext_cell (hf x).b1 HPv.out 1 _ rfl; kernel_rfl; (try simp only [Act.put, List.setIfInBounds_toArray, List.set_cons_succ, List.set_cons_zero])) | ((with_reducible apply ldq (fun x => (hf x).b0)); exact rfl; exact rfl; exact rfl; exact rfl; kernel_rfl; (try simp only [Act.put, List.setIfInBounds_toArray, List.set_cons_succ, List.set_cons_zero])) | go_big_quiet_step (fail))); refine wpQuiet_nil ?_; clear hcl hf hne hs f X; intro w hs) | ((with_reducible refine isl ?_); first | ((with_reducible apply ldsc (cs := exC (x1, x2))); exact rfl; exact rfl; exact rfl; exact ext_cell hs.b0 HXi.out; exact row41) | ((with_reducible apply ldsc (cs := exC (x1, x2))); exact rfl; exact rfl; exact rfl; exact ext_cell hs.b1 HXi.out; exact row41) | ((with_reducible apply ldsc (cs := exC (x1, x2))); exact rfl; exact rfl; exact rfl; exact ext_cell hs.b2 HXi.out; exact row41) | ((with_reducible refine wrap hs ?_); clear hs; generalize wr.heap.size = z7; intro w hs) | ((with_reducible apply stsw hs); exact rfl; exact rfl; exact rfl; exact rfl; exact row41; exact rfl; exact rfl; exact rfl; clear hs; intro w hs) | ((with_reducible apply ld hs.b0); exact rfl; exact rfl; exact rfl; exact rfl; kernel_rfl) | ((with_reducible apply ld hs.b1); exact rfl; exact rfl; exact rfl; exact rfl; kernel_rfl) | ((with_reducible apply ld hs.b2); exact rfl; exact rfl; exact rfl; exact rfl; kernel_rfl) | ((with_reducible apply st hs.b0); exact rfl; exact rfl; exact rfl; exact rfl; exact rfl; exact rfl; kernel_rfl; exact rfl; clear hs; intro w hs) | ((with_reducible apply st hs.b1); exact rfl; exact rfl; exact rfl; exact rfl; exact rfl; exact rfl; kernel_rfl; exact rfl; clear hs; intro w hs) | ((with_reducible apply st hs.b2); exact rfl; exact rfl; exact rfl; exact rfl; exact rfl; exact rfl; kernel_rfl; exact rfl; clear hs; intro w hs) | ((with_reducible apply stc hs.b0); exact rfl; exact rfl; exact rfl; exact rfl; exact rfl; kernel_rfl; exact rfl; clear hs; intro w hs) | ((with_reducible apply stc hs.b1); exact rfl; exact rfl; exact rfl; exact rfl; exact rfl; kernel_rfl; exact rfl; clear hs; intro w hs) | ((with_reducible apply stc hs.b2); exact rfl; exact rfl; exact rfl; exact rfl; exact rfl; kernel_rfl; exact rfl; clear hs; intro w hs) | ((with_reducible refine wrap hs ?_); clear hs; intro w hs) | ((with_reducible refine wrapn hs ?_); clear hs; intro w hs) | ((with_reducible refine wrapd hs ?_); clear hs; intro w hs)))
        by_cases hlast : (0 : Nat) + 1 < nW
        · obtain ⟨⟨v1, v2⟩, hv⟩ : ∃ y, ws[(0 : Nat) + 1]? = some y := ⟨_, List.getElem?_eq_getElem (by have := HLw.out; omega)⟩
          have HNx := Lib.hid hv
          have H15 : Hid (nextW ws x1 = (v1 : Int)) := Lib.hid (by have := cover_next HOK.out HXi.out; rw [hv] at this; exact this)
          have hlast' : (((0 : Nat) : Nat) : Int) + 1 < (nW : Int) := by omega
          clear hv
          go_wp2_with (first | (apply ldc; exact rfl; exact rfl; exact rfl; exact ext_cell hs.b1 HNx.out 0 _ rfl; kernel_rfl) | (apply ldc; exact rfl; exact rfl; exact rfl; exact ext_cell hs.b1 HPv.out 0 _ rfl; kernel_rfl) | (go_at_call 15; (first | refine (next_t HWS.out H15.out HK2.out hs.b0).mono ?_ | refine (next_t HWS.out H15.out HK2.out hs.b1).mono ?_ | refine (next_t HWS.out H15.out HK2.out hs.b2).mono ?_ | refine (next_t HWS.out H15.out HK2.out hs.b3).mono ?_ | refine (next_t HWS.out H15.out HK2.out hs.b4).mono ?_); clear hs; rintro e w ⟨rfl, hs⟩) | (go_at_call 16; (first | refine (prev_t HWS.out H16.out HK2.out hs.b0).mono ?_ | refine (prev_t HWS.out H16.out HK2.out hs.b1).mono ?_ | refine (prev_t HWS.out H16.out HK2.out hs.b2).mono ?_ | refine (prev_t HWS.out H16.out HK2.out hs.b3).mono ?_ | refine (prev_t HWS.out H16.out HK2.out hs.b4).mono ?_); clear hs; rintro e w ⟨rfl, hs⟩) | ((with_reducible refine isl ?_); first | ((with_reducible apply ld hs.b0); exact rfl; exact rfl; exact rfl; exact rfl; kernel_rfl) | ((with_reducible apply ld hs.b1); exact rfl; exact rfl; exact rfl; exact rfl; kernel_rfl) | ((with_reducible apply ld hs.b2); exact rfl; exact rfl; exact rfl; exact rfl; kernel_rfl) | ((with_reducible apply ld hs.b3); exact rfl; exact rfl; exact rfl; exact rfl; kernel_rfl) | ((with_reducible apply st hs.b0); exact rfl; exact rfl; exact rfl; exact rfl; exact rfl; exact rfl; kernel_rfl; exact rfl; clear hs; intro w hs) | ((with_reducible apply st hs.b1); exact rfl; exact rfl; exact rfl; exact rfl; exact rfl; exact rfl; kernel_rfl; exact rfl; clear hs; intro w hs) | ((with_reducible apply st hs.b2); exact rfl; exact rfl; exact rfl; exact rfl; exact rfl; exact rfl; kernel_rfl; exact rfl; clear hs; intro w hs) | ((with_reducible apply st hs.b3); exact rfl; exact rfl; exact rfl; exact rfl; exact rfl; exact rfl; kernel_rfl; exact rfl; clear hs; intro w hs) | ((with_reducible apply stc hs.b0); exact rfl; exact rfl; exact rfl; exact rfl; exact rfl; kernel_rfl; exact rfl; clear hs; intro w hs) | ((with_reducible apply stc hs.b1); exact rfl; exact rfl; exact rfl; exact rfl; exact rfl; kernel_rfl; exact rfl; clear hs; intro w hs) | ((with_reducible apply stc hs.b2); exact rfl; exact rfl; exact rfl; exact rfl; exact rfl; kernel_rfl; exact rfl; clear hs; intro w hs) | ((with_reducible apply stc hs.b3); exact rfl; exact rfl; exact rfl; exact rfl; exact rfl; kernel_rfl; exact rfl; clear hs; intro w hs) | ((with_reducible refine wrap hs ?_); clear hs; intro w hs) | ((with_reducible refine wrapn hs ?_); clear hs; intro w hs) | ((with_reducible refine wrapd hs ?_); clear hs; intro w hs)))
          replace hs : sat W (cel z7 41 (exC (x1, x2)) :: own 41 2 (.slice (some ⟨gW, 0, none⟩) nW cW) nW (exs ws) :: own 3 1 (.slice (some ⟨gI, 0, none⟩) n n) n (nums .i64 (rng n (cnt (ws.take 0)))) :: tx t x :: H) w := by (refine sat_from ?_ hs; repeat (first | exact Sub.refl _ | exact Sub.nil _ | refine Sub.c0 ?_ | refine Sub.c1 ?_ | refine Sub.c2 ?_ | refine Sub.c3 ?_ | refine Sub.c4 ?_ | refine Sub.c5 ?_ | refine Sub.c6 ?_ | refine Sub.c7 ?_ | refine Sub.c8 ?_ | refine Sub.c9 ?_ | refine Sub.skip ?_))
          go_loopw [10] (fun i wr => ∃ c : Nat, (x1 ≤ c ∧ c ≤ x2) ∧ i = .int .i64 (c : Int) ∧ sat W (cel z7 41 (exC (x1, x2)) :: own 41 2 (.slice (some ⟨gW, 0, none⟩) nW cW) nW (exs ws) :: own 3 1 (.slice (some ⟨gI, 0, none⟩) n n) n (nums .i64 (rng n (part (ws.take 0) (x1, x2) c))) :: tx t x :: H) wr) (fun i _ => ((x2 : Int) - intOf i).toNat)
          case atStart => exact ⟨x1, ⟨Nat.le_refl _, Nat.le_of_lt hx12⟩, rfl, by rw [part_start]; exact hs⟩
          case round =>
            clear hs
            obtain ⟨c, ⟨hc1, hc2⟩, rfl, hs⟩ := hrel
            by_cases hcl : c < x2
            · have hcn : c < n := by omega
              have HV := Lib.hid (show (nums .i64 (rng n (part (ws.take 0) (x1, x2) c)))[c]? = some (.int .i64 (cnt (ws.take 0) c : Nat)) by rw [rng_get _ hcn, part_at])
              have hv : cnt (ws.take 0) c ≤ 1000 := by have h1 := cnt_le (ws.take 0) c; rw [List.length_take] at h1; have := HLw.out; omega
              have HST : Hid ((nums .i64 (rng n (part (ws.take 0) (x1, x2) c))).set c (.int .i64 (((cnt (ws.take 0) c : Nat) : Int) + 1)) = nums .i64 (rng n (fun j => if j = c then cnt (ws.take 0) c + 1 else part (ws.take 0) (x1, x2) c j))) := Lib.hid (rng_set _ hcn)
              have HPS := Lib.hid (part_step (n := n) (ws := ws.take 0) (x := (x1, x2)) hc1 hcl)
              have HWD := Lib.hid (show wordW ws c = some (x1, x2) from cover_word HOK.out HXi.out hc1 hcl)
              generalize cnt (ws.take 0) c = v at HV hv HST HPS
              have hcn2 : (c : Int) < (n : Int) := by omega
              go_wp2_with (first | (go_at_call 17; (first | refine (word_t HWS.out HWD.out HK2.out hs.b0).mono ?_ | refine (word_t HWS.out HWD.out HK2.out hs.b1).mono ?_ | refine (word_t HWS.out HWD.out HK2.out hs.b2).mono ?_ | refine (word_t HWS.out HWD.out HK2.out hs.b3).mono ?_ | refine (word_t HWS.out HWD.out HK2.out hs.b4).mono ?_); clear hs; rintro e w ⟨rfl, hs⟩) | ((with_reducible refine isl ?_); first | ((with_reducible apply ldo hs.b2); exact rfl; exact rfl; exact rfl; exact HV.out; kernel_rfl) | ((with_reducible apply sto hs.b2); exact rfl; exact rfl; exact rfl; exact rfl; exact rfl; (rw [HV.out]; rfl); kernel_rfl; exact rfl; clear hs; intro w hs; rw [HST.out, HPS.out] at hs) | ((with_reducible apply stsw hs); exact rfl; exact rfl; exact rfl; exact rfl; exact row41; exact rfl; exact rfl; exact rfl; clear hs; intro w hs) | ((with_reducible apply ldsw hs.b0); exact rfl; exact rfl; exact rfl; exact row41) | ((with_reducible apply ldsw hs.b1); exact rfl; exact rfl; exact rfl; exact row41) | ((with_reducible apply ldsw hs.b2); exact rfl; exact rfl; exact rfl; exact row41) | ((with_reducible apply ldsw hs.b3); exact rfl; exact rfl; exact rfl; exact row41) | ((with_reducible apply ldsw hs.b4); exact rfl; exact rfl; exact rfl; exact row41) | ((with_reducible apply ldsw hs.b5); exact rfl; exact rfl; exact rfl; exact row41) | ((with_reducible apply ld hs.b0); exact rfl; exact rfl; exact rfl; exact rfl; kernel_rfl) | ((with_reducible apply st hs.b0); exact rfl; exact rfl; exact rfl; exact rfl; exact rfl; exact rfl; kernel_rfl; exact rfl; clear hs; intro w hs) | ((with_reducible apply stc hs.b0); exact rfl; exact rfl; exact rfl; exact rfl; exact rfl; kernel_rfl; exact rfl; clear hs; intro w hs) | ((with_reducible refine wrap hs ?_); clear hs; (first | generalize w.heap.size = z11); intro w hs) | ((with_reducible refine wrap hs ?_); clear hs; intro w hs) | ((with_reducible refine wrapn hs ?_); clear hs; intro w hs) | ((with_reducible refine wrapd hs ?_); clear hs; intro w hs)))
              go_roundw
              case rel => exact ⟨c + 1, ⟨by omega, hcl⟩, by go_num, by (refine sat_from ?_ hs; repeat (first | exact Sub.refl _ | exact Sub.nil _ | refine Sub.c0 ?_ | refine Sub.c1 ?_ | refine Sub.c2 ?_ | refine Sub.c3 ?_ | refine Sub.c4 ?_ | refine Sub.c5 ?_ | refine Sub.c6 ?_ | refine Sub.c7 ?_ | refine Sub.c8 ?_ | refine Sub.c9 ?_ | refine Sub.skip ?_))⟩
              case measure => simp [intOf]; omega
            · obtain rfl : c = x2 := by omega
              have HPE := Lib.hid (part_end (ws := ws) HXi.out)
              rw [HPE.out] at hs
              go_wp2_with (first | ((with_reducible refine isl ?_); first | ((with_reducible apply ld hs.b0); exact rfl; exact rfl; exact rfl; exact rfl; kernel_rfl) | ((with_reducible apply st hs.b0); exact rfl; exact rfl; exact rfl; exact rfl; exact rfl; exact rfl; kernel_rfl; exact rfl; clear hs; intro w hs) | ((with_reducible apply stc hs.b0); exact rfl; exact rfl; exact rfl; exact rfl; exact rfl; kernel_rfl; exact rfl; clear hs; intro w hs) | ((with_reducible refine wrap hs ?_); clear hs; intro w hs) | ((with_reducible refine wrapn hs ?_); clear hs; intro w hs) | ((with_reducible refine wrapd hs ?_); clear hs; intro w hs)))
              go_roundw
              case rel => exact ⟨1, by omega, by go_num, by (refine sat_from ?_ hs; repeat (first | exact Sub.refl _ | exact Sub.nil _ | refine Sub.c0 ?_ | refine Sub.c1 ?_ | refine Sub.c2 ?_ | refine Sub.c3 ?_ | refine Sub.c4 ?_ | refine Sub.c5 ?_ | refine Sub.c6 ?_ | refine Sub.c7 ?_ | refine Sub.c8 ?_ | refine Sub.c9 ?_ | refine Sub.skip ?_))⟩
              case measure => simp [intOf]; omega
        · have H15 : Hid (nextW ws x1 = -1) := Lib.hid (by have := cover_next HOK.out HXi.out; rw [List.getElem?_eq_none (by have := HLw.out; omega)] at this; exact this)
          have HNx := HXi
          have hlast' : ¬ (((0 : Nat) : Nat) : Int) + 1 < (nW : Int) := by omega
          go_wp2_with (first | (apply ldc; exact rfl; exact rfl; exact rfl; exact ext_cell hs.b1 HNx.out 0 _ rfl; kernel_rfl) | (apply ldc; exact rfl; exact rfl; exact rfl; exact ext_cell hs.b1 HPv.out 0 _ rfl; kernel_rfl) | (go_at_call 15; (first | refine (next_t HWS.out H15.out HK2.out hs.b0).mono ?_ | refine (next_t HWS.out H15.out HK2.out hs.b1).mono ?_ | refine (next_t HWS.out H15.out HK2.out hs.b2).mono ?_ | refine (next_t HWS.out H15.out HK2.out hs.b3).mono ?_ | refine (next_t HWS.out H15.out HK2.out hs.b4).mono ?_); clear hs; rintro e w ⟨rfl, hs⟩) | (go_at_call 16; (first | refine (prev_t HWS.out H16.out HK2.out hs.b0).mono ?_ | refine (prev_t HWS.out H16.out HK2.out hs.b1).mono ?_ | refine (prev_t HWS.out H16.out HK2.out hs.b2).mono ?_ | refine (prev_t HWS.out H16.out HK2.out hs.b3).mono ?_ | refine (prev_t HWS.out H16.out HK2.out hs.b4).mono ?_); clear hs; rintro e w ⟨rfl, hs⟩) | ((with_reducible refine isl ?_); first | ((with_reducible apply ld hs.b0); exact rfl; exact rfl; exact rfl; exact rfl; kernel_rfl) | ((with_reducible apply ld hs.b1); exact rfl; exact rfl; exact rfl; exact rfl; kernel_rfl) | ((with_reducible apply ld hs.b2); exact rfl; exact rfl; exact rfl; exact rfl; kernel_rfl) | ((with_reducible apply ld hs.b3); exact rfl; exact rfl; exact rfl; exact rfl; kernel_rfl) | ((with_reducible apply st hs.b0); exact rfl; exact rfl; exact rfl; exact rfl; exact rfl; exact rfl; kernel_rfl; exact rfl; clear hs; intro w hs) | ((with_reducible apply st hs.b1); exact rfl; exact rfl; exact rfl; exact rfl; exact rfl; exact rfl; kernel_rfl; exact rfl; clear hs; intro w hs) | ((with_reducible apply st hs.b2); exact rfl; exact rfl; exact rfl; exact rfl; exact rfl; exact rfl; kernel_rfl; exact rfl; clear hs; intro w hs) | ((with_reducible apply st hs.b3); exact rfl; exact rfl; exact rfl; exact rfl; exact rfl; exact rfl; kernel_rfl; exact rfl; clear hs; intro w hs) | ((with_reducible apply stc hs.b0); exact rfl; exact rfl; exact rfl; exact rfl; exact rfl; kernel_rfl; exact rfl; clear hs; intro w hs) | ((with_reducible apply stc hs.b1); exact rfl; exact rfl; exact rfl; exact rfl; exact rfl; kernel_rfl; exact rfl; clear hs; intro w hs) | ((with_reducible apply stc hs.b2); exact rfl; exact rfl; exact rfl; exact rfl; exact rfl; kernel_rfl; exact rfl; clear hs; intro w hs) | ((with_reducible apply stc hs.b3); exact rfl; exact rfl; exact rfl; exact rfl; exact rfl; kernel_rfl; exact rfl; clear hs; intro w hs) | ((with_reducible refine wrap hs ?_); clear hs; intro w hs) | ((with_reducible refine wrapn hs ?_); clear hs; intro w hs) | ((with_reducible refine wrapd hs ?_); clear hs; intro w hs)))
          replace hs : sat W (cel z7 41 (exC (x1, x2)) :: own 41 2 (.slice (some ⟨gW, 0, none⟩) nW cW) nW (exs ws) :: own 3 1 (.slice (some ⟨gI, 0, none⟩) n n) n (nums .i64 (rng n (cnt (ws.take 0)))) :: tx t x :: H) w := by (refine sat_from ?_ hs; repeat (first | exact Sub.refl _ | exact Sub.nil _ | refine Sub.c0 ?_ | refine Sub.c1 ?_ | refine Sub.c2 ?_ | refine Sub.c3 ?_ | refine Sub.c4 ?_ | refine Sub.c5 ?_ | refine Sub.c6 ?_ | refine Sub.c7 ?_ | refine Sub.c8 ?_ | refine Sub.c9 ?_ | refine Sub.skip ?_))
          go_loopw [10] (fun i wr => ∃ c : Nat, (x1 ≤ c ∧ c ≤ x2) ∧ i = .int .i64 (c : Int) ∧ sat W (cel z7 41 (exC (x1, x2)) :: own 41 2 (.slice (some ⟨gW, 0, none⟩) nW cW) nW (exs ws) :: own 3 1 (.slice (some ⟨gI, 0, none⟩) n n) n (nums .i64 (rng n (part (ws.take 0) (x1, x2) c))) :: tx t x :: H) wr) (fun i _ => ((x2 : Int) - intOf i).toNat)
          case atStart => exact ⟨x1, ⟨Nat.le_refl _, Nat.le_of_lt hx12⟩, rfl, by rw [part_start]; exact hs⟩
          case round =>
            clear hs
            obtain ⟨c, ⟨hc1, hc2⟩, rfl, hs⟩ := hrel
            by_cases hcl : c < x2
            · have hcn : c < n := by omega
              have HV := Lib.hid (show (nums .i64 (rng n (part (ws.take 0) (x1, x2) c)))[c]? = some (.int .i64 (cnt (ws.take 0) c : Nat)) by rw [rng_get _ hcn, part_at])
              have hv : cnt (ws.take 0) c ≤ 1000 := by have h1 := cnt_le (ws.take 0) c; rw [List.length_take] at h1; have := HLw.out; omega
              have HST : Hid ((nums .i64 (rng n (part (ws.take 0) (x1, x2) c))).set c (.int .i64 (((cnt (ws.take 0) c : Nat) : Int) + 1)) = nums .i64 (rng n (fun j => if j = c then cnt (ws.take 0) c + 1 else part (ws.take 0) (x1, x2) c j))) := Lib.hid (rng_set _ hcn)
              have HPS := Lib.hid (part_step (n := n) (ws := ws.take 0) (x := (x1, x2)) hc1 hcl)
              have HWD := Lib.hid (show wordW ws c = some (x1, x2) from cover_word HOK.out HXi.out hc1 hcl)
              generalize cnt (ws.take 0) c = v at HV hv HST HPS
              have hcn2 : (c : Int) < (n : Int) := by omega
              go_wp2_with (first | (go_at_call 17; (first | refine (word_t HWS.out HWD.out HK2.out hs.b0).mono ?_ | refine (word_t HWS.out HWD.out HK2.out hs.b1).mono ?_ | refine (word_t HWS.out HWD.out HK2.out hs.b2).mono ?_ | refine (word_t HWS.out HWD.out HK2.out hs.b3).mono ?_ | refine (word_t HWS.out HWD.out HK2.out hs.b4).mono ?_); clear hs; rintro e w ⟨rfl, hs⟩) | ((with_reducible refine isl ?_); first | ((with_reducible apply ldo hs.b2); exact rfl; exact rfl; exact rfl; exact HV.out; kernel_rfl) | ((with_reducible apply sto hs.b2); exact rfl; exact rfl; exact rfl; exact rfl; exact rfl; (rw [HV.out]; rfl); kernel_rfl; exact rfl; clear hs; intro w hs; rw [HST.out, HPS.out] at hs) | ((with_reducible apply stsw hs); exact rfl; exact rfl; exact rfl; exact rfl; exact row41; exact rfl; exact rfl; exact rfl; clear hs; intro w hs) | ((with_reducible apply ldsw hs.b0); exact rfl; exact rfl; exact rfl; exact row41) | ((with_reducible apply ldsw hs.b1); exact rfl; exact rfl; exact rfl; exact row41) | ((with_reducible apply ldsw hs.b2); exact rfl; exact rfl; exact rfl; exact row41) | ((with_reducible apply ldsw hs.b3); exact rfl; exact rfl; exact rfl; exact row41) | ((with_reducible apply ldsw hs.b4); exact rfl; exact rfl; exact rfl; exact row41) | ((with_reducible apply ldsw hs.b5); exact rfl; exact rfl; exact rfl; exact row41) | ((with_reducible apply ld hs.b0); exact rfl; exact rfl; exact rfl; exact rfl; kernel_rfl) | ((with_reducible apply st hs.b0); exact rfl; exact rfl; exact rfl; exact rfl; exact rfl; exact rfl; kernel_rfl; exact rfl; clear hs; intro w hs) | ((with_reducible apply stc hs.b0); exact rfl; exact rfl; exact rfl; exact rfl; exact rfl; kernel_rfl; exact rfl; clear hs; intro w hs) | ((with_reducible refine wrap hs ?_); clear hs; (first | generalize w.heap.size = z11); intro w hs) | ((with_reducible refine wrap hs ?_); clear hs; intro w hs) | ((with_reducible refine wrapn hs ?_); clear hs; intro w hs) | ((with_reducible refine wrapd hs ?_); clear hs; intro w hs)))
              go_roundw
              case rel => exact ⟨c + 1, ⟨by omega, hcl⟩, by go_num, by (refine sat_from ?_ hs; repeat (first | exact Sub.refl _ | exact Sub.nil _ | refine Sub.c0 ?_ | refine Sub.c1 ?_ | refine Sub.c2 ?_ | refine Sub.c3 ?_ | refine Sub.c4 ?_ | refine Sub.c5 ?_ | refine Sub.c6 ?_ | refine Sub.c7 ?_ | refine Sub.c8 ?_ | refine Sub.c9 ?_ | refine Sub.skip ?_))⟩
              case measure => simp [intOf]; omega
            · obtain rfl : c = x2 := by omega
              have HPE := Lib.hid (part_end (ws := ws) HXi.out)
              rw [HPE.out] at hs
              go_wp2_with (first | ((with_reducible refine isl ?_); first | ((with_reducible apply ld hs.b0); exact rfl; exact rfl; exact rfl; exact rfl; kernel_rfl) | ((with_reducible apply st hs.b0); exact rfl; exact rfl; exact rfl; exact rfl; exact rfl; exact rfl; kernel_rfl; exact rfl; clear hs; intro w hs) | ((with_reducible apply stc hs.b0); exact rfl; exact rfl; exact rfl; exact rfl; exact rfl; kernel_rfl; exact rfl; clear hs; intro w hs) | ((with_reducible refine wrap hs ?_); clear hs; intro w hs) | ((with_reducible refine wrapn hs ?_); clear hs; intro w hs) | ((with_reducible refine wrapd hs ?_); clear hs; intro w hs)))
              go_roundw
              case rel => exact ⟨1, by omega, by go_num, by (refine sat_from ?_ hs; repeat (first | exact Sub.refl _ | exact Sub.nil _ | refine Sub.c0 ?_ | refine Sub.c1 ?_ | refine Sub.c2 ?_ | refine Sub.c3 ?_ | refine Sub.c4 ?_ | refine Sub.c5 ?_ | refine Sub.c6 ?_ | refine Sub.c7 ?_ | refine Sub.c8 ?_ | refine Sub.c9 ?_ | refine Sub.skip ?_))⟩
              case measure => simp [intOf]; omega
      · obtain ⟨k1, rfl⟩ : ∃ k1, k = k1 + 1 := ⟨k - 1, by omega⟩
        obtain ⟨⟨y1, y2⟩, hy⟩ : ∃ y, ws[k1]? = some y := ⟨_, List.getElem?_eq_getElem (by have := HLw.out; omega)⟩
        have HPv := Lib.hid hy
        have H16 : Hid (prevW ws x1 = (y1 : Int)) := Lib.hid (by have := cover_prev HOK.out HXi.out; rw [if_pos (by omega), Nat.add_sub_cancel, hy] at this; exact this)
        have hyx : y2 < x1 := (ws_before HOK.out HXi.out (y1, y2) (by rw [List.take_succ_eq_append_getElem (List.getElem?_eq_some_iff.1 hy).1, (List.getElem?_eq_some_iff.1 hy).2]; simp)).2
        have g4 : decide (0 < k1 + 1) = true := by simp
        have g4' : decide ((0 : Int) < (k1 : Int) + 1) = true := decide_eq_true (by omega)
        have g5 : decide (x1 ≤ y2) = false := by simp; omega
        have hk1 : k1 < nW := by omega
        have hk1' : (k1 : Int) < (nW : Int) := by omega
        clear hy
        go_upto_region 11 with (first | ((try simp only [Act.put, List.setIfInBounds_toArray, List.set_cons_succ, List.set_cons_zero]); refine region_sat hs (by kernel_rfl) (by kernel_rfl) ?_; intro X f hne hf hcl; (repeat (first | (apply ldcq; exact rfl; exact rfl; exact rfl; exact fun x => ext_cell (hf x).b1 HPv.out 1 _ rfl; kernel_rfl; (try simp only [Act.put, List.setIfInBounds_toArray, List.set_cons_succ, List.set_cons_zero])) | ((with_reducible apply ldq (fun x => (hf x).b0)); exact rfl; exact rfl; exact rfl; exact rfl; kernel_rfl; (try simp only [Act.put, List.setIfInBounds_toArray, List.set_cons_succ, List.set_cons_zero])) | go_big_quiet_step (fail))); refine wpQuiet_nil ?_; clear hcl hf hne hs f X; intro w hs) | ((with_reducible refine isl ?_); first | ((with_reducible apply ldsc (cs := exC (x1, x2))); exact rfl; exact rfl; exact rfl; exact ext_cell hs.b0 HXi.out; exact row41) | ((with_reducible apply ldsc (cs := exC (x1, x2))); exact rfl; exact rfl; exact rfl; exact ext_cell hs.b1 HXi.out; exact row41) | ((with_reducible apply ldsc (cs := exC (x1, x2))); exact rfl; exact rfl; exact rfl; exact ext_cell hs.b2 HXi.out; exact row41) | ((with_reducible refine wrap hs ?_); clear hs; generalize wr.heap.size = z7; intro w hs) | ((with_reducible apply stsw hs); exact rfl; exact rfl; exact rfl; exact rfl; exact row41; exact rfl; exact rfl; exact rfl; clear hs; intro w hs) | ((with_reducible apply ld hs.b0); exact rfl; exact rfl; exact rfl; exact rfl; kernel_rfl) | ((with_reducible apply ld hs.b1); exact rfl; exact rfl; exact rfl; exact rfl; kernel_rfl) | ((with_reducible apply ld hs.b2); exact rfl; exact rfl; exact rfl; exact rfl; kernel_rfl) | ((with_reducible apply st hs.b0); exact rfl; exact rfl; exact rfl; exact rfl; exact rfl; exact rfl; kernel_rfl; exact rfl; clear hs; intro w hs) | ((with_reducible apply st hs.b1); exact rfl; exact rfl; exact rfl; exact rfl; exact rfl; exact rfl; kernel_rfl; exact rfl; clear hs; intro w hs) | ((with_reducible apply st hs.b2); exact rfl; exact rfl; exact rfl; exact rfl; exact rfl; exact rfl; kernel_rfl; exact rfl; clear hs; intro w hs) | ((with_reducible apply stc hs.b0); exact rfl; exact rfl; exact rfl; exact rfl; exact rfl; kernel_rfl; exact rfl; clear hs; intro w hs) | ((with_reducible apply stc hs.b1); exact rfl; exact rfl; exact rfl; exact rfl; exact rfl; kernel_rfl; exact rfl; clear hs; intro w hs) | ((with_reducible apply stc hs.b2); exact rfl; exact rfl; exact rfl; exact rfl; exact rfl; kernel_rfl; exact rfl; clear hs; intro w hs) | ((with_reducible refine wrap hs ?_); clear hs; intro w hs) | ((with_reducible refine wrapn hs ?_); clear hs; intro w hs) | ((with_reducible refine wrapd hs ?_); clear hs; intro w hs)))
        by_cases hlast : (k1 + 1) + 1 < nW
        · obtain ⟨⟨v1, v2⟩, hv⟩ : ∃ y, ws[(k1 + 1) + 1]? = some y := ⟨_, List.getElem?_eq_getElem (by have := HLw.out; omega)⟩
          have HNx := Lib.hid hv
          have H15 : Hid (nextW ws x1 = (v1 : Int)) := Lib.hid (by have := cover_next HOK.out HXi.out; rw [hv] at this; exact this)
          have hlast' : (((k1 + 1) : Nat) : Int) + 1 < (nW : Int) := by omega
          clear hv
          go_wp2_with (first | (apply ldc; exact rfl; exact rfl; exact rfl; exact ext_cell hs.b1 HNx.out 0 _ rfl; kernel_rfl) | (apply ldc; exact rfl; exact rfl; exact rfl; exact ext_cell hs.b1 HPv.out 0 _ rfl; kernel_rfl) | (go_at_call 15; (first | refine (next_t HWS.out H15.out HK2.out hs.b0).mono ?_ | refine (next_t HWS.out H15.out HK2.out hs.b1).mono ?_ | refine (next_t HWS.out H15.out HK2.out hs.b2).mono ?_ | refine (next_t HWS.out H15.out HK2.out hs.b3).mono ?_ | refine (next_t HWS.out H15.out HK2.out hs.b4).mono ?_); clear hs; rintro e w ⟨rfl, hs⟩) | (go_at_call 16; (first | refine (prev_t HWS.out H16.out HK2.out hs.b0).mono ?_ | refine (prev_t HWS.out H16.out HK2.out hs.b1).mono ?_ | refine (prev_t HWS.out H16.out HK2.out hs.b2).mono ?_ | refine (prev_t HWS.out H16.out HK2.out hs.b3).mono ?_ | refine (prev_t HWS.out H16.out HK2.out hs.b4).mono ?_); clear hs; rintro e w ⟨rfl, hs⟩) | ((with_reducible refine isl ?_); first | ((with_reducible apply ld hs.b0); exact rfl; exact rfl; exact rfl; exact rfl; kernel_rfl) | ((with_reducible apply ld hs.b1); exact rfl; exact rfl; exact rfl; exact rfl; kernel_rfl) | ((with_reducible apply ld hs.b2); exact rfl; exact rfl; exact rfl; exact rfl; kernel_rfl) | ((with_reducible apply ld hs.b3); exact rfl; exact rfl; exact rfl; exact rfl; kernel_rfl) | ((with_reducible apply st hs.b0); exact rfl; exact rfl; exact rfl; exact rfl; exact rfl; exact rfl; kernel_rfl; exact rfl; clear hs; intro w hs) | ((with_reducible apply st hs.b1); exact rfl; exact rfl; exact rfl; exact rfl; exact rfl; exact rfl; kernel_rfl; exact rfl; clear hs; intro w hs) | ((with_reducible apply st hs.b2); exact rfl; exact rfl; exact rfl; exact rfl; exact rfl; exact rfl; kernel_rfl; exact rfl; clear hs; intro w hs) | ((with_reducible apply st hs.b3); exact rfl; exact rfl; exact rfl; exact rfl; exact rfl; exact rfl; kernel_rfl; exact rfl; clear hs; intro w hs) | ((with_reducible apply stc hs.b0); exact rfl; exact rfl; exact rfl; exact rfl; exact rfl; kernel_rfl; exact rfl; clear hs; intro w hs) | ((with_reducible apply stc hs.b1); exact rfl; exact rfl; exact rfl; exact rfl; exact rfl; kernel_rfl; exact rfl; clear hs; intro w hs) | ((with_reducible apply stc hs.b2); exact rfl; exact rfl; exact rfl; exact rfl; exact rfl; kernel_rfl; exact rfl; clear hs; intro w hs) | ((with_reducible apply stc hs.b3); exact rfl; exact rfl; exact rfl; exact rfl; exact rfl; kernel_rfl; exact rfl; clear hs; intro w hs) | ((with_reducible refine wrap hs ?_); clear hs; intro w hs) | ((with_reducible refine wrapn hs ?_); clear hs; intro w hs) | ((with_reducible refine wrapd hs ?_); clear hs; intro w hs)))
          replace hs : sat W (cel z7 41 (exC (x1, x2)) :: own 41 2 (.slice (some ⟨gW, 0, none⟩) nW cW) nW (exs ws) :: own 3 1 (.slice (some ⟨gI, 0, none⟩) n n) n (nums .i64 (rng n (cnt (ws.take (k1 + 1))))) :: tx t x :: H) w := by (refine sat_from ?_ hs; repeat (first | exact Sub.refl _ | exact Sub.nil _ | refine Sub.c0 ?_ | refine Sub.c1 ?_ | refine Sub.c2 ?_ | refine Sub.c3 ?_ | refine Sub.c4 ?_ | refine Sub.c5 ?_ | refine Sub.c6 ?_ | refine Sub.c7 ?_ | refine Sub.c8 ?_ | refine Sub.c9 ?_ | refine Sub.skip ?_))
          go_loopw [10] (fun i wr => ∃ c : Nat, (x1 ≤ c ∧ c ≤ x2) ∧ i = .int .i64 (c : Int) ∧ sat W (cel z7 41 (exC (x1, x2)) :: own 41 2 (.slice (some ⟨gW, 0, none⟩) nW cW) nW (exs ws) :: own 3 1 (.slice (some ⟨gI, 0, none⟩) n n) n (nums .i64 (rng n (part (ws.take (k1 + 1)) (x1, x2) c))) :: tx t x :: H) wr) (fun i _ => ((x2 : Int) - intOf i).toNat)
          case atStart => exact ⟨x1, ⟨Nat.le_refl _, Nat.le_of_lt hx12⟩, rfl, by rw [part_start]; exact hs⟩
          case round =>
            clear hs
            obtain ⟨c, ⟨hc1, hc2⟩, rfl, hs⟩ := hrel
            by_cases hcl : c < x2
            · have hcn : c < n := by omega
              have HV := Lib.hid (show (nums .i64 (rng n (part (ws.take (k1 + 1)) (x1, x2) c)))[c]? = some (.int .i64 (cnt (ws.take (k1 + 1)) c : Nat)) by rw [rng_get _ hcn, part_at])
              have hv : cnt (ws.take (k1 + 1)) c ≤ 1000 := by have h1 := cnt_le (ws.take (k1 + 1)) c; rw [List.length_take] at h1; have := HLw.out; omega
              have HST : Hid ((nums .i64 (rng n (part (ws.take (k1 + 1)) (x1, x2) c))).set c (.int .i64 (((cnt (ws.take (k1 + 1)) c : Nat) : Int) + 1)) = nums .i64 (rng n (fun j => if j = c then cnt (ws.take (k1 + 1)) c + 1 else part (ws.take (k1 + 1)) (x1, x2) c j))) := Lib.hid (rng_set _ hcn)
              have HPS := Lib.hid (part_step (n := n) (ws := ws.take (k1 + 1)) (x := (x1, x2)) hc1 hcl)
              have HWD := Lib.hid (show wordW ws c = some (x1, x2) from cover_word HOK.out HXi.out hc1 hcl)
              generalize cnt (ws.take (k1 + 1)) c = v at HV hv HST HPS
              have hcn2 : (c : Int) < (n : Int) := by omega
              go_wp2_with (first | (go_at_call 17; (first | refine (word_t HWS.out HWD.out HK2.out hs.b0).mono ?_ | refine (word_t HWS.out HWD.out HK2.out hs.b1).mono ?_ | refine (word_t HWS.out HWD.out HK2.out hs.b2).mono ?_ | refine (word_t HWS.out HWD.out HK2.out hs.b3).mono ?_ | refine (word_t HWS.out HWD.out HK2.out hs.b4).mono ?_); clear hs; rintro e w ⟨rfl, hs⟩) | ((with_reducible refine isl ?_); first | ((with_reducible apply ldo hs.b2); exact rfl; exact rfl; exact rfl; exact HV.out; kernel_rfl) | ((with_reducible apply sto hs.b2); exact rfl; exact rfl; exact rfl; exact rfl; exact rfl; (rw [HV.out]; rfl); kernel_rfl; exact rfl; clear hs; intro w hs; rw [HST.out, HPS.out] at hs) | ((with_reducible apply stsw hs); exact rfl; exact rfl; exact rfl; exact rfl; exact row41; exact rfl; exact rfl; exact rfl; clear hs; intro w hs) | ((with_reducible apply ldsw hs.b0); exact rfl; exact rfl; exact rfl; exact row41) | ((with_reducible apply ldsw hs.b1); exact rfl; exact rfl; exact rfl; exact row41) | ((with_reducible apply ldsw hs.b2); exact rfl; exact rfl; exact rfl; exact row41) | ((with_reducible apply ldsw hs.b3); exact rfl; exact rfl; exact rfl; exact row41) | ((with_reducible apply ldsw hs.b4); exact rfl; exact rfl; exact rfl; exact row41) | ((with_reducible apply ldsw hs.b5); exact rfl; exact rfl; exact rfl; exact row41) | ((with_reducible apply ld hs.b0); exact rfl; exact rfl; exact rfl; exact rfl; kernel_rfl) | ((with_reducible apply st hs.b0); exact rfl; exact rfl; exact rfl; exact rfl; exact rfl; exact rfl; kernel_rfl; exact rfl; clear hs; intro w hs) | ((with_reducible apply stc hs.b0); exact rfl; exact rfl; exact rfl; exact rfl; exact rfl; kernel_rfl; exact rfl; clear hs; intro w hs) | ((with_reducible refine wrap hs ?_); clear hs; (first | generalize w.heap.size = z11); intro w hs) | ((with_reducible refine wrap hs ?_); clear hs; intro w hs) | ((with_reducible refine wrapn hs ?_); clear hs; intro w hs) | ((with_reducible refine wrapd hs ?_); clear hs; intro w hs)))
              go_roundw
              case rel => exact ⟨c + 1, ⟨by omega, hcl⟩, by go_num, by (refine sat_from ?_ hs; repeat (first | exact Sub.refl _ | exact Sub.nil _ | refine Sub.c0 ?_ | refine Sub.c1 ?_ | refine Sub.c2 ?_ | refine Sub.c3 ?_ | refine Sub.c4 ?_ | refine Sub.c5 ?_ | refine Sub.c6 ?_ | refine Sub.c7 ?_ | refine Sub.c8 ?_ | refine Sub.c9 ?_ | refine Sub.skip ?_))⟩
              case measure => simp [intOf]; omega
            · obtain rfl : c = x2 := by omega
              have HPE := Lib.hid (part_end (ws := ws) HXi.out)
              rw [HPE.out] at hs
              go_wp2_with (first | ((with_reducible refine isl ?_); first | ((with_reducible apply ld hs.b0); exact rfl; exact rfl; exact rfl; exact rfl; kernel_rfl) | ((with_reducible apply st hs.b0); exact rfl; exact rfl; exact rfl; exact rfl; exact rfl; exact rfl; kernel_rfl; exact rfl; clear hs; intro w hs) | ((with_reducible apply stc hs.b0); exact rfl; exact rfl; exact rfl; exact rfl; exact rfl; kernel_rfl; exact rfl; clear hs; intro w hs) | ((with_reducible refine wrap hs ?_); clear hs; intro w hs) | ((with_reducible refine wrapn hs ?_); clear hs; intro w hs) | ((with_reducible refine wrapd hs ?_); clear hs; intro w hs)))
              go_roundw
              case rel => exact ⟨k1 + 1 + 1, by omega, by go_num, by (refine sat_from ?_ hs; repeat (first | exact Sub.refl _ | exact Sub.nil _ | refine Sub.c0 ?_ | refine Sub.c1 ?_ | refine Sub.c2 ?_ | refine Sub.c3 ?_ | refine Sub.c4 ?_ | refine Sub.c5 ?_ | refine Sub.c6 ?_ | refine Sub.c7 ?_ | refine Sub.c8 ?_ | refine Sub.c9 ?_ | refine Sub.skip ?_))⟩
              case measure => simp [intOf]; omega
        · have H15 : Hid (nextW ws x1 = -1) := Lib.hid (by have := cover_next HOK.out HXi.out; rw [List.getElem?_eq_none (by have := HLw.out; omega)] at this; exact this)
          have HNx := HXi
          have hlast' : ¬ (((k1 + 1) : Nat) : Int) + 1 < (nW : Int) := by omega
          go_wp2_with (first | (apply ldc; exact rfl; exact rfl; exact rfl; exact ext_cell hs.b1 HNx.out 0 _ rfl; kernel_rfl) | (apply ldc; exact rfl; exact rfl; exact rfl; exact ext_cell hs.b1 HPv.out 0 _ rfl; kernel_rfl) | (go_at_call 15; (first | refine (next_t HWS.out H15.out HK2.out hs.b0).mono ?_ | refine (next_t HWS.out H15.out HK2.out hs.b1).mono ?_ | refine (next_t HWS.out H15.out HK2.out hs.b2).mono ?_ | refine (next_t HWS.out H15.out HK2.out hs.b3).mono ?_ | refine (next_t HWS.out H15.out HK2.out hs.b4).mono ?_); clear hs; rintro e w ⟨rfl, hs⟩) | (go_at_call 16; (first | refine (prev_t HWS.out H16.out HK2.out hs.b0).mono ?_ | refine (prev_t HWS.out H16.out HK2.out hs.b1).mono ?_ | refine (prev_t HWS.out H16.out HK2.out hs.b2).mono ?_ | refine (prev_t HWS.out H16.out HK2.out hs.b3).mono ?_ | refine (prev_t HWS.out H16.out HK2.out hs.b4).mono ?_); clear hs; rintro e w ⟨rfl, hs⟩) | ((with_reducible refine isl ?_); first | ((with_reducible apply ld hs.b0); exact rfl; exact rfl; exact rfl; exact rfl; kernel_rfl) | ((with_reducible apply ld hs.b1); exact rfl; exact rfl; exact rfl; exact rfl; kernel_rfl) | ((with_reducible apply ld hs.b2); exact rfl; exact rfl; exact rfl; exact rfl; kernel_rfl) | ((with_reducible apply ld hs.b3); exact rfl; exact rfl; exact rfl; exact rfl; kernel_rfl) | ((with_reducible apply st hs.b0); exact rfl; exact rfl; exact rfl; exact rfl; exact rfl; exact rfl; kernel_rfl; exact rfl; clear hs; intro w hs) | ((with_reducible apply st hs.b1); exact rfl; exact rfl; exact rfl; exact rfl; exact rfl; exact rfl; kernel_rfl; exact rfl; clear hs; intro w hs) | ((with_reducible apply st hs.b2); exact rfl; exact rfl; exact rfl; exact rfl; exact rfl; exact rfl; kernel_rfl; exact rfl; clear hs; intro w hs) | ((with_reducible apply st hs.b3); exact rfl; exact rfl; exact rfl; exact rfl; exact rfl; exact rfl; kernel_rfl; exact rfl; clear hs; intro w hs) | ((with_reducible apply stc hs.b0); exact rfl; exact rfl; exact rfl; exact rfl; exact rfl; kernel_rfl; exact rfl; clear hs; intro w hs) | ((with_reducible apply stc hs.b1); exact rfl; exact rfl; exact rfl; exact rfl; exact rfl; kernel_rfl; exact rfl; clear hs; intro w hs) | ((with_reducible apply stc hs.b2); exact rfl; exact rfl; exact rfl; exact rfl; exact rfl; kernel_rfl; exact rfl; clear hs; intro w hs) | ((with_reducible apply stc hs.b3); exact rfl; exact rfl; exact rfl; exact rfl; exact rfl; kernel_rfl; exact rfl; clear hs; intro w hs) | ((with_reducible refine wrap hs ?_); clear hs; intro w hs) | ((with_reducible refine wrapn hs ?_); clear hs; intro w hs) | ((with_reducible refine wrapd hs ?_); clear hs; intro w hs)))
          replace hs : sat W (cel z7 41 (exC (x1, x2)) :: own 41 2 (.slice (some ⟨gW, 0, none⟩) nW cW) nW (exs ws) :: own 3 1 (.slice (some ⟨gI, 0, none⟩) n n) n (nums .i64 (rng n (cnt (ws.take (k1 + 1))))) :: tx t x :: H) w := by (refine sat_from ?_ hs; repeat (first | exact Sub.refl _ | exact Sub.nil _ | refine Sub.c0 ?_ | refine Sub.c1 ?_ | refine Sub.c2 ?_ | refine Sub.c3 ?_ | refine Sub.c4 ?_ | refine Sub.c5 ?_ | refine Sub.c6 ?_ | refine Sub.c7 ?_ | refine Sub.c8 ?_ | refine Sub.c9 ?_ | refine Sub.skip ?_))
          go_loopw [10] (fun i wr => ∃ c : Nat, (x1 ≤ c ∧ c ≤ x2) ∧ i = .int .i64 (c : Int) ∧ sat W (cel z7 41 (exC (x1, x2)) :: own 41 2 (.slice (some ⟨gW, 0, none⟩) nW cW) nW (exs ws) :: own 3 1 (.slice (some ⟨gI, 0, none⟩) n n) n (nums .i64 (rng n (part (ws.take (k1 + 1)) (x1, x2) c))) :: tx t x :: H) wr) (fun i _ => ((x2 : Int) - intOf i).toNat)
          case atStart => exact ⟨x1, ⟨Nat.le_refl _, Nat.le_of_lt hx12⟩, rfl, by rw [part_start]; exact hs⟩
          case round =>
            clear hs
            obtain ⟨c, ⟨hc1, hc2⟩, rfl, hs⟩ := hrel
            by_cases hcl : c < x2
            · have hcn : c < n := by omega
              have HV := Lib.hid (show (nums .i64 (rng n (part (ws.take (k1 + 1)) (x1, x2) c)))[c]? = some (.int .i64 (cnt (ws.take (k1 + 1)) c : Nat)) by rw [rng_get _ hcn, part_at])
              have hv : cnt (ws.take (k1 + 1)) c ≤ 1000 := by have h1 := cnt_le (ws.take (k1 + 1)) c; rw [List.length_take] at h1; have := HLw.out; omega
              have HST : Hid ((nums .i64 (rng n (part (ws.take (k1 + 1)) (x1, x2) c))).set c (.int .i64 (((cnt (ws.take (k1 + 1)) c : Nat) : Int) + 1)) = nums .i64 (rng n (fun j => if j = c then cnt (ws.take (k1 + 1)) c + 1 else part (ws.take (k1 + 1)) (x1, x2) c j))) := Lib.hid (rng_set _ hcn)
              have HPS := Lib.hid (part_step (n := n) (ws := ws.take (k1 + 1)) (x := (x1, x2)) hc1 hcl)
              have HWD := Lib.hid (show wordW ws c = some (x1, x2) from cover_word HOK.out HXi.out hc1 hcl)
              generalize cnt (ws.take (k1 + 1)) c = v at HV hv HST HPS
              have hcn2 : (c : Int) < (n : Int) := by omega
              go_wp2_with (first | (go_at_call 17; (first | refine (word_t HWS.out HWD.out HK2.out hs.b0).mono ?_ | refine (word_t HWS.out HWD.out HK2.out hs.b1).mono ?_ | refine (word_t HWS.out HWD.out HK2.out hs.b2).mono ?_ | refine (word_t HWS.out HWD.out HK2.out hs.b3).mono ?_ | refine (word_t HWS.out HWD.out HK2.out hs.b4).mono ?_); clear hs; rintro e w ⟨rfl, hs⟩) | ((with_reducible refine isl ?_); first | ((with_reducible apply ldo hs.b2); exact rfl; exact rfl; exact rfl; exact HV.out; kernel_rfl) | ((with_reducible apply sto hs.b2); exact rfl; exact rfl; exact rfl; exact rfl; exact rfl; (rw [HV.out]; rfl); kernel_rfl; exact rfl; clear hs; intro w hs; rw [HST.out, HPS.out] at hs) | ((with_reducible apply stsw hs); exact rfl; exact rfl; exact rfl; exact rfl; exact row41; exact rfl; exact rfl; exact rfl; clear hs; intro w hs) | ((with_reducible apply ldsw hs.b0); exact rfl; exact rfl; exact rfl; exact row41) | ((with_reducible apply ldsw hs.b1); exact rfl; exact rfl; exact rfl; exact row41) | ((with_reducible apply ldsw hs.b2); exact rfl; exact rfl; exact rfl; exact row41) | ((with_reducible apply ldsw hs.b3); exact rfl; exact rfl; exact rfl; exact row41) | ((with_reducible apply ldsw hs.b4); exact rfl; exact rfl; exact rfl; exact row41) | ((with_reducible apply ldsw hs.b5); exact rfl; exact rfl; exact rfl; exact row41) | ((with_reducible apply ld hs.b0); exact rfl; exact rfl; exact rfl; exact rfl; kernel_rfl) | ((with_reducible apply st hs.b0); exact rfl; exact rfl; exact rfl; exact rfl; exact rfl; exact rfl; kernel_rfl; exact rfl; clear hs; intro w hs) | ((with_reducible apply stc hs.b0); exact rfl; exact rfl; exact rfl; exact rfl; exact rfl; kernel_rfl; exact rfl; clear hs; intro w hs) | ((with_reducible refine wrap hs ?_); clear hs; (first | generalize w.heap.size = z11); intro w hs) | ((with_reducible refine wrap hs ?_); clear hs; intro w hs) | ((with_reducible refine wrapn hs ?_); clear hs; intro w hs) | ((with_reducible refine wrapd hs ?_); clear hs; intro w hs)))
              go_roundw
              case rel => exact ⟨c + 1, ⟨by omega, hcl⟩, by go_num, by (refine sat_from ?_ hs; repeat (first | exact Sub.refl _ | exact Sub.nil _ | refine Sub.c0 ?_ | refine Sub.c1 ?_ | refine Sub.c2 ?_ | refine Sub.c3 ?_ | refine Sub.c4 ?_ | refine Sub.c5 ?_ | refine Sub.c6 ?_ | refine Sub.c7 ?_ | refine Sub.c8 ?_ | refine Sub.c9 ?_ | refine Sub.skip ?_))⟩
              case measure => simp [intOf]; omega
            · obtain rfl : c = x2 := by omega
              have HPE := Lib.hid (part_end (ws := ws) HXi.out)
              rw [HPE.out] at hs
              go_wp2_with (first | ((with_reducible refine isl ?_); first | ((with_reducible apply ld hs.b0); exact rfl; exact rfl; exact rfl; exact rfl; kernel_rfl) | ((with_reducible apply st hs.b0); exact rfl; exact rfl; exact rfl; exact rfl; exact rfl; exact rfl; kernel_rfl; exact rfl; clear hs; intro w hs) | ((with_reducible apply stc hs.b0); exact rfl; exact rfl; exact rfl; exact rfl; exact rfl; kernel_rfl; exact rfl; clear hs; intro w hs) | ((with_reducible refine wrap hs ?_); clear hs; intro w hs) | ((with_reducible refine wrapn hs ?_); clear hs; intro w hs) | ((with_reducible refine wrapd hs ?_); clear hs; intro w hs)))
              go_roundw
              case rel => exact ⟨k1 + 1 + 1, by omega, by go_num, by (refine sat_from ?_ hs; repeat (first | exact Sub.refl _ | exact Sub.nil _ | refine Sub.c0 ?_ | refine Sub.c1 ?_ | refine Sub.c2 ?_ | refine Sub.c3 ?_ | refine Sub.c4 ?_ | refine Sub.c5 ?_ | refine Sub.c6 ?_ | refine Sub.c7 ?_ | refine Sub.c8 ?_ | refine Sub.c9 ?_ | refine Sub.skip ?_))⟩
              case measure => simp [intOf]; omega
    · obtain rfl : k = nW := by omega
      have HTK := Lib.hid (show ws.take k = ws from List.take_of_length_le (by have := HLw.out; omega))
      rw [HTK.out] at hs
      go_wp2
      have hs := hs
      go_loopw [126] (fun i wr => ∃ c : Nat, c ≤ n ∧ i = .int .i64 (c : Int) ∧ sat W (own 41 2 (.slice aW k cW) k (exs ws) :: own 3 1 (.slice (some ⟨gI, 0, none⟩) n n) n (nums .i64 (rng n (cnt ws))) :: tx t x :: H) wr) (fun i _ => ((n : Int) - intOf i).toNat)
      case atStart => exact ⟨0, Nat.zero_le _, rfl, hs⟩
      case round =>
        clear hs
        obtain ⟨c, hc, rfl, hs⟩ := hrel
        by_cases hcl : c < n
        · obtain ⟨m, hm, b, off, rfl, hcc⟩ := HC.out.1.getm (hs.dropN 3) hcl
          have HCC := Lib.hid hcc
          have hbm : x.blank[c]? = some (isB m.c) := by rw [HBL.out, List.getElem?_map, List.getElem?_map, hm]; rfl
          have hct := cnt_end HOK.out hbm
          have HV := Lib.hid (rng_get (n := n) (cnt ws) hcl)
          rw [hct] at HV
          have hcn : (c : Int) < (n : Int) := by omega
          clear hcc hm hbm hct
          have BL := Lib.hid (fun (w : World) (Hq : List HProp) (hs : sat W Hq w) => blank18 m hs)
          generalize isB m.c = bb at HV BL
          cases bb with
          | true =>
            rw [if_pos rfl] at HV
            have g1 : decide ((1 : Int) < ((0 : Nat) : Int)) = false := by decide
            go_upto_region 29 with fail
            refine region_mix [([0, 1, 2, 3, 4, 5, 6, 7, 8], [9])] [10, 11, 12, 13, 14, 15, 16, 17] hs (fun _ h => h) (by kernel_rfl) (by kernel_rfl) (fun _ _ _ _ _ h => h) ?_
            simp only [segs, nths, nth, List.append_nil, List.nil_append, List.cons_append, List.map_cons, List.map_nil]
            refine seg_reads (fun _ h => h) ?_; intro X f hne hf hcl; (try simp only [Act.put, List.setIfInBounds_toArray, List.set_cons_succ, List.set_cons_zero]); (repeat (first | ((with_reducible apply ldoq (fun x => (hf x).b1)); exact rfl; exact rfl; exact rfl; exact HV.out; kernel_rfl; (try simp only [Act.put, List.setIfInBounds_toArray, List.set_cons_succ, List.set_cons_zero])) | ((with_reducible apply ldscq (cs := cmV m)); exact rfl; exact rfl; exact rfl; exact fun x => HCC.out _ ((hf x).dropN 3); exact row36; (try simp only [Act.put, List.setIfInBounds_toArray, List.set_cons_succ, List.set_cons_zero])) | go_big_quiet_step (fail))); refine wpQuiet_nil ?_; clear hcl hf hne hs f X; intro w hs
            go_wp2_with (first | (go_at_call 18; refine (BL.out _ _ hs).mono ?_; clear hs; rintro e w ⟨rfl, hs⟩) | ((with_reducible refine isl ?_); first | ((with_reducible refine wrap hs ?_); clear hs; intro w hs) | ((with_reducible refine wrapn hs ?_); clear hs; intro w hs) | ((with_reducible refine wrapd hs ?_); clear hs; intro w hs)))
            (first | (refine seg_on hs (by first | exact fun _ h => h | exact fun _ h => h.drop | exact fun _ h => h.drop.drop | exact fun _ h => h.drop.drop.drop) (fun _ h => h) ?_; clear hs; intro hs) | (refine seg_on hs.made (by first | exact fun _ h => h | exact fun _ h => h.drop | exact fun _ h => h.drop.drop | exact fun _ h => h.drop.drop.drop) (fun _ h => h) ?_; clear hs; intro hs) | (refine seg_on hs.drew (by first | exact fun _ h => h | exact fun _ h => h.drop | exact fun _ h => h.drop.drop | exact fun _ h => h.drop.drop.drop) (fun _ h => h) ?_; clear hs; intro hs) | (refine seg_on hs.drew.made (by first | exact fun _ h => h | exact fun _ h => h.drop | exact fun _ h => h.drop.drop | exact fun _ h => h.drop.drop.drop) (fun _ h => h) ?_; clear hs; intro hs) | (refine seg_on (hs.drewN _) (by first | exact fun _ h => h | exact fun _ h => h.drop | exact fun _ h => h.drop.drop | exact fun _ h => h.drop.drop.drop) (fun _ h => h) ?_; clear hs; intro hs))
            refine seg_last (fun _ h => h) ?_; intro X f hne hf hcl; (try simp only [Act.put, List.setIfInBounds_toArray, List.set_cons_succ, List.set_cons_zero]); (repeat (first | ((with_reducible apply ldoq (fun x => (hf x).b1)); exact rfl; exact rfl; exact rfl; exact HV.out; kernel_rfl; (try simp only [Act.put, List.setIfInBounds_toArray, List.set_cons_succ, List.set_cons_zero])) | ((with_reducible apply ldscq (cs := cmV m)); exact rfl; exact rfl; exact rfl; exact fun x => HCC.out _ ((hf x).dropN 3); exact row36; (try simp only [Act.put, List.setIfInBounds_toArray, List.set_cons_succ, List.set_cons_zero])) | go_big_quiet_step (fail))); refine wpQuiet_nil ?_; clear hcl hf hne hs f X; intro w hs
            go_wp2
            go_roundw
            case rel => exact ⟨c + 1, hcl, by go_num, hs⟩
            case measure => simp [intOf]; omega
          | false =>
            rw [if_neg (by simp)] at HV
            have g1 : decide ((1 : Int) < ((1 : Nat) : Int)) = false := by decide
            go_upto_region 29 with fail
            refine region_mix [([0, 1, 2, 3, 4, 5, 6, 7, 8], [9])] [10, 11, 12, 13, 14, 15, 16, 17] hs (fun _ h => h) (by kernel_rfl) (by kernel_rfl) (fun _ _ _ _ _ h => h) ?_
            simp only [segs, nths, nth, List.append_nil, List.nil_append, List.cons_append, List.map_cons, List.map_nil]
            refine seg_reads (fun _ h => h) ?_; intro X f hne hf hcl; (try simp only [Act.put, List.setIfInBounds_toArray, List.set_cons_succ, List.set_cons_zero]); (repeat (first | ((with_reducible apply ldoq (fun x => (hf x).b1)); exact rfl; exact rfl; exact rfl; exact HV.out; kernel_rfl; (try simp only [Act.put, List.setIfInBounds_toArray, List.set_cons_succ, List.set_cons_zero])) | ((with_reducible apply ldscq (cs := cmV m)); exact rfl; exact rfl; exact rfl; exact fun x => HCC.out _ ((hf x).dropN 3); exact row36; (try simp only [Act.put, List.setIfInBounds_toArray, List.set_cons_succ, List.set_cons_zero])) | go_big_quiet_step (fail))); refine wpQuiet_nil ?_; clear hcl hf hne hs f X; intro w hs
            go_wp2_with (first | (go_at_call 18; refine (BL.out _ _ hs).mono ?_; clear hs; rintro e w ⟨rfl, hs⟩) | ((with_reducible refine isl ?_); first | ((with_reducible refine wrap hs ?_); clear hs; intro w hs) | ((with_reducible refine wrapn hs ?_); clear hs; intro w hs) | ((with_reducible refine wrapd hs ?_); clear hs; intro w hs)))
            (first | (refine seg_on hs (by first | exact fun _ h => h | exact fun _ h => h.drop | exact fun _ h => h.drop.drop | exact fun _ h => h.drop.drop.drop) (fun _ h => h) ?_; clear hs; intro hs) | (refine seg_on hs.made (by first | exact fun _ h => h | exact fun _ h => h.drop | exact fun _ h => h.drop.drop | exact fun _ h => h.drop.drop.drop) (fun _ h => h) ?_; clear hs; intro hs) | (refine seg_on hs.drew (by first | exact fun _ h => h | exact fun _ h => h.drop | exact fun _ h => h.drop.drop | exact fun _ h => h.drop.drop.drop) (fun _ h => h) ?_; clear hs; intro hs) | (refine seg_on hs.drew.made (by first | exact fun _ h => h | exact fun _ h => h.drop | exact fun _ h => h.drop.drop | exact fun _ h => h.drop.drop.drop) (fun _ h => h) ?_; clear hs; intro hs) | (refine seg_on (hs.drewN _) (by first | exact fun _ h => h | exact fun _ h => h.drop | exact fun _ h => h.drop.drop | exact fun _ h => h.drop.drop.drop) (fun _ h => h) ?_; clear hs; intro hs))
            refine seg_last (fun _ h => h) ?_; intro X f hne hf hcl; (try simp only [Act.put, List.setIfInBounds_toArray, List.set_cons_succ, List.set_cons_zero]); (repeat (first | ((with_reducible apply ldoq (fun x => (hf x).b1)); exact rfl; exact rfl; exact rfl; exact HV.out; kernel_rfl; (try simp only [Act.put, List.setIfInBounds_toArray, List.set_cons_succ, List.set_cons_zero])) | ((with_reducible apply ldscq (cs := cmV m)); exact rfl; exact rfl; exact rfl; exact fun x => HCC.out _ ((hf x).dropN 3); exact row36; (try simp only [Act.put, List.setIfInBounds_toArray, List.set_cons_succ, List.set_cons_zero])) | go_big_quiet_step (fail))); refine wpQuiet_nil ?_; clear hcl hf hne hs f X; intro w hs
            go_wp2
            go_roundw
            case rel => exact ⟨c + 1, hcl, by go_num, hs⟩
            case measure => simp [intOf]; omega
        · obtain rfl : c = n := by omega
          go_wp2_with (first | (go_at_call 8; refine (known8 hs).mono ?_; clear hs; rintro e w ⟨rfl, hs⟩) | ((with_reducible refine isl ?_); first | ((with_reducible refine wrap hs ?_); clear hs; intro w hs) | ((with_reducible refine wrapn hs ?_); clear hs; intro w hs) | ((with_reducible refine wrapd hs ?_); clear hs; intro w hs)))
          go_ret
          exact ⟨rfl, hs.dropN 3⟩
theorem cover_top {E : Type} {enc : TypeId × Value → E} (a : Option Addr) (n c : Nat) (d : DataW E) (w : World) (h : RdD enc Try.prog w 22 [.slice a n c] d) (hk : Rows.uptoSmall E [d] = true) :
    Calls Try.prog 4 #[.slice a n c] w fun e w' => e = .returned (.bool true) ∧ Below w.heap.size w w' := by
  obtain ⟨L, hL, hz, _⟩ := cells_rd h
  have hb := bulk_first hk
  by_cases hg : 600 < size (cl L)
  · exact (cover_great (hL w []) (by omega) hg (sat.start w)).mono fun _ _ ⟨he, hs⟩ => ⟨he, hs.below⟩
  · exact (cover_walk (hL w []) (by omega) (sat.start w)).mono fun _ _ ⟨he, hs⟩ => ⟨he, hs.below⟩
end Go.Proofs.Ytdbaiioeaffgaaa
