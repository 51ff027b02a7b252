import Derived.Test.YtappjlebkjmooaaP1
namespace Go.Proofs.Ytappjlebkjmooaa
open Go.RowKit Go.Mem
variable {W w : World} {H : List HProp}

theorem PIn.drewN {w : World} {b : Nat} {L : PL} (h : PIn w b L) (n : Nat) : PIn (w.drewN n) b L := h
theorem PIn.cn {w : World} {b : Nat} {L : PL} (h : PIn w b L) : w.cell? ⟨b, 32, none⟩ = some (.int .i64 L.n) := by simp [World.cell?, h.2, PL.cell_n h.1]
theorem PIn.cf {w : World} {b : Nat} {L : PL} (h : PIn w b L) : w.cell? ⟨b, 33, none⟩ = some (.bool L.full) := by simp [World.cell?, h.2, PL.cell_full h.1]
theorem PIn.cl {w : World} {b : Nat} {L : PL} (h : PIn w b L) {i : Nat} (hi : i < 32) : w.cell? ⟨b, i, none⟩ = some (.int .i64 (L.l.getD i 0)) := by simp only [World.cell?, h.2, PL.cell_l h.1 hi]; rfl
theorem PIn.fr {w : World} {b : Nat} {L : PL} (h : PIn w b L) (o : Nat) : w.frozen? ⟨b, o, none⟩ = false := by simp [World.frozen?, h.2]

set_option maxHeartbeats 400000 in
theorem len_any (b : Nat) (L : PL) (w : World) (h : PIn w b L) :
    Calls Try.prog 14 #[.pointer (some ⟨b, 0, none⟩)] w fun e w' => e = .returned (.int .i64 L.n) ∧ ∃ n, w' = w.drewN n := by
  go_enter Try.func14, Try.ntmps14
  go_wp2_with (go_at_call 21; refine (list_any b L _ h).mono ?_; rintro e w' ⟨rfl, n1, rfl⟩)
  go_ret
  exact ⟨rfl, _, rfl⟩

theorem len_nil (w : World) : Calls Try.prog 14 #[.pointer none] w fun e w' => e = .returned (.int .i64 0) ∧ ∃ n, w' = w.drewN n := by
  go_enter Try.func14, Try.ntmps14
  go_wp2_with (go_at_call 21; refine (list_nil _).mono ?_; rintro e w' ⟨rfl, n1, rfl⟩)
  go_ret
  exact ⟨rfl, _, rfl⟩

set_option maxHeartbeats 400000 in
theorem at_any (b : Nat) (L : PL) (i d : Int) (w : World) (h : PIn w b L) :
    Calls Try.prog 12 #[.pointer (some ⟨b, 0, none⟩), .int .i64 i, .int .i64 d] w fun e w' => e = .returned (.int .i64 (at' L i d)) ∧ ∃ n, w' = w.drewN n := by
  by_cases h1 : i < 0
  · have HF := Lib.hid (show at' L i d = d by unfold at'; rw [if_pos (.inl h1)])
    go_enter Try.func12, Try.ntmps12
    go_wp2
    go_ret
    exact ⟨ret_int HF.out, 0, rfl⟩
  · by_cases h2 : (L.n : Int) ≤ i
    · have HF := Lib.hid (show at' L i d = d by unfold at'; rw [if_pos (.inr (.inl h2))])
      go_enter Try.func12, Try.ntmps12
      go_wp2_with (go_at_call 14; refine (len_any b L _ h).mono ?_; rintro e w' ⟨rfl, n1, rfl⟩)
      go_ret
      exact ⟨ret_int HF.out, _, rfl⟩
    · have hn := h.1.2.1
      obtain ⟨k, rfl⟩ := Int.eq_ofNat_of_zero_le (show 0 ≤ i by omega)
      have hk : k < L.n := by omega
      have ck := h.cl (i := k) (by omega)
      by_cases h3 : L.l.getD k 0 = 0
      · have HF := Lib.hid (show at' L k d = d by unfold at'; rw [if_pos (.inr (.inr (by simpa using h3)))])
        rw [h3] at ck
        clear h3
        go_enter Try.func12, Try.ntmps12
        go_wp2_with (go_at_call 14; refine (len_any b L _ h).mono ?_; rintro e w' ⟨rfl, n1, rfl⟩)
        go_ret
        exact ⟨ret_int HF.out, _, rfl⟩
      · have HF := Lib.hid (show at' L k d = L.l.getD k 0 by unfold at'; rw [if_neg (by simp only [not_or]; exact ⟨by omega, by omega, by simpa using h3⟩)]; simp)
        have hne : (L.l.getD k 0 == 0) = false := by simpa using h3
        generalize L.l.getD k 0 = x at *
        go_enter Try.func12, Try.ntmps12
        go_wp2_with (go_at_call 14; refine (len_any b L _ h).mono ?_; rintro e w' ⟨rfl, n1, rfl⟩)
        go_ret
        exact ⟨ret_int HF.out, _, rfl⟩

theorem at_nil (i d : Int) (w : World) :
    Calls Try.prog 12 #[.pointer none, .int .i64 i, .int .i64 d] w fun e w' => e = .returned (.int .i64 d) ∧ ∃ n, w' = w.drewN n := by
  by_cases h1 : i < 0
  · go_enter Try.func12, Try.ntmps12
    go_wp2
    go_ret
    exact ⟨rfl, 0, rfl⟩
  · go_enter Try.func12, Try.ntmps12
    go_wp2_with (go_at_call 14; refine (len_nil _).mono ?_; rintro e w' ⟨rfl, n1, rfl⟩)
    go_ret
    exact ⟨rfl, _, rfl⟩

set_option maxHeartbeats 400000 in
theorem new_any (hs : sat W H w) : Calls Try.prog 8 #[] w fun e w' => ∃ b, e = .returned (.pointer (some ⟨b, 0, none⟩)) ∧ sat W (plist b PL.new :: H) w' := by
  go_enter Try.func8, Try.ntmps8
  go_wp2
  go_ret
  exact ⟨_, rfl, PL.mk_ok (hs.alloc _) PL.new_ok⟩

theorem digit_nil (d : Int) (w : World) : Calls Try.prog 13 #[.pointer none, .int .i64 d] w fun e w' => e = .returned (.tuple #[]) ∧ w' = w := by
  go_enter Try.func13, Try.ntmps13
  go_wp2
  refine end_ret0 rfl rfl ?_
  exact ⟨rfl, rfl⟩

set_option maxHeartbeats 400000 in
theorem digit_any (b : Nat) (L : PL) (d : Int) (hs : sat W (plist b L :: H) w) :
    Calls Try.prog 13 #[.pointer (some ⟨b, 0, none⟩), .int .i64 d] w fun e w' => e = .returned (.tuple #[]) ∧ sat W (plist b (digit L d) :: H) w' := by
  have hp := PIn.of hs
  have cf := hp.cf
  have cn := hp.cn
  have ff := hp.fr
  obtain ⟨hok, hb⟩ := hs.and_pure
  by_cases h1 : d < 0
  · have HF := Lib.hid (show digit L d = L by unfold digit; rw [if_pos (.inl h1)])
    go_enter Try.func13, Try.ntmps13
    go_wp2
    refine end_ret0 rfl rfl ?_
    exact ⟨rfl, by rw [HF.out]; exact hs⟩
  · by_cases h2 : 9 < d
    · have HF := Lib.hid (show digit L d = L by unfold digit; rw [if_pos (.inr (.inl h2))])
      go_enter Try.func13, Try.ntmps13
      go_wp2
      refine end_ret0 rfl rfl ?_
      exact ⟨rfl, by rw [HF.out]; exact hs⟩
    · cases h3 : L.full with
      | true =>
        have HF := Lib.hid (show digit L d = L by unfold digit; rw [if_pos (.inr (.inr h3))])
        rw [h3] at cf
        clear h3
        go_enter Try.func13, Try.ntmps13
        go_wp2
        refine end_ret0 rfl rfl ?_
        exact ⟨rfl, by rw [HF.out]; exact hs⟩
      | false =>
        have hok' := digit_ok hok d
        have HF := Lib.hid (show digit L d = { l := L.l.set (max L.n 1 - 1) (min (L.l.getD (max L.n 1 - 1) 0 * 10 + d) 65535), n := max L.n 1, full := L.full } by
          unfold digit; rw [if_neg (by simp only [not_or]; exact ⟨h1, h2, by simp [h3]⟩)])
        rw [h3] at cf
        clear h3
        have hn := hok.2.1
        obtain ⟨m, hm⟩ : ∃ m, m = max L.n 1 := ⟨_, rfl⟩
        have ci := hp.cl (i := m - 1) (by omega)
        have hx := PL.getD_bd hok (m - 1)
        obtain ⟨y, hy⟩ : ∃ y, L.l.getD (m - 1) 0 = y := ⟨_, rfl⟩
        rw [hy] at ci hx
        have hfin : ∀ (w' : World) (x : Int), x = min (y * 10 + d) 65535 → sat W (blk b (.cells ((L.cells.setIfInBounds 32 (.int .i64 m)).setIfInBounds (m - 1) (.int .i64 x)) 43) :: H) w' → sat W (plist b (digit L d) :: H) w' := by
          intro w' x hx hs'
          rw [PL.set_n L hok.1, PL.set_l _ (by exact hok.1) (by omega)] at hs'
          refine PL.mk_ok (L := digit L d) ?_ hok'
          rw [HF.out, ← hm, hy, ← hx]
          exact hs'
        have HFin := Lib.hid hfin
        clear hfin HF hy
        by_cases h0 : 1 ≤ L.n
        · obtain rfl : m = L.n := by omega
          clear hm
          go_enter Try.func13, Try.ntmps13
          go_wp2
          go_quiet (fail)
          go_wp2
          all_goals
            refine end_end0 rfl rfl ?_
            exact ⟨rfl, HFin.out _ _ (by omega) (((hb.set _).drewN _).set _)⟩
        · obtain rfl : m = 1 := by omega
          clear hm
          have h00 : L.n = 0 := by omega
          rw [h00] at cn
          clear h00 h0
          go_enter Try.func13, Try.ntmps13
          go_wp2
          go_quiet (fail)
          go_wp2
          all_goals
            refine end_end0 rfl rfl ?_
            exact ⟨rfl, HFin.out _ _ (by omega) (((hb.set _).drewN _).set _)⟩

theorem next_nil (w : World) : Calls Try.prog 9 #[.pointer none] w fun e w' => e = .returned (.tuple #[]) ∧ w' = w := by
  go_enter Try.func9, Try.ntmps9
  go_wp2
  refine end_end0 rfl rfl ?_
  exact ⟨rfl, rfl⟩

set_option maxHeartbeats 400000 in
theorem next_any (b : Nat) (L : PL) (hs : sat W (plist b L :: H) w) :
    Calls Try.prog 9 #[.pointer (some ⟨b, 0, none⟩)] w fun e w' => e = .returned (.tuple #[]) ∧ sat W (plist b (next L) :: H) w' := by
  have hp := PIn.of hs
  have cf := hp.cf
  have cn := hp.cn
  have ff := hp.fr
  obtain ⟨hok, hb⟩ := hs.and_pure
  have hok' := next_ok hok
  have hn := hok.2.1
  by_cases h1 : L.n = 32
  · have HF := Lib.hid (show next L = { L with full := true } by unfold next; rw [if_pos h1])
    rw [h1] at cn
    clear h1
    go_enter Try.func9, Try.ntmps9
    go_wp2
    refine end_end0 rfl rfl ?_
    refine ⟨rfl, PL.mk_ok ?_ hok'⟩
    rw [HF.out, ← PL.set_full L hok.1]
    exact hb.set _
  · have HF := Lib.hid (show next L = { L with n := max L.n 1 + 1 } by unfold next; rw [if_neg h1])
    have HE := Lib.hid (show ((L.n : Int) == 32) = false by simpa using (by omega : (L.n : Int) ≠ 32))
    by_cases h0 : 1 ≤ L.n
    · have he := HE.out
      go_enter Try.func9, Try.ntmps9
      go_wp2
      refine end_end0 rfl rfl ?_
      refine ⟨rfl, PL.mk_ok ?_ hok'⟩
      rw [HF.out, ← PL.set_n L hok.1, show ((max L.n 1 + 1 : Nat) : Int) = (L.n : Int) + 1 from by omega]
      exact hb.set _
    · have h00 : L.n = 0 := by omega
      rw [h00] at cn
      clear h1 h0
      go_enter Try.func9, Try.ntmps9
      go_wp2
      refine end_end0 rfl rfl ?_
      refine ⟨rfl, PL.mk_ok ?_ hok'⟩
      rw [HF.out, ← PL.set_n L hok.1, show ((max L.n 1 + 1 : Nat) : Int) = 2 from by omega]
      exact hb.set _

theorem clear_nil (w : World) : Calls Try.prog 16 #[.pointer none] w fun e w' => e = .returned (.tuple #[]) ∧ w' = w := by
  go_enter Try.func16, Try.ntmps16
  go_wp2
  refine end_end0 rfl rfl ?_
  exact ⟨rfl, rfl⟩

set_option maxHeartbeats 400000 in
theorem clear_any (b : Nat) (L : PL) (hs : sat W (plist b L :: H) w) :
    Calls Try.prog 16 #[.pointer (some ⟨b, 0, none⟩)] w fun e w' => e = .returned (.tuple #[]) ∧ sat W (plist b PL.new :: H) w' := by
  obtain ⟨hok, hb⟩ := hs.and_pure
  have hg := Lib.hid hb.heap
  have hsz : L.cells.size = 34 := by simp [PL.cells, hok.1]
  have HS := Lib.hid hsz
  clear hsz
  go_enter Try.func16, Try.ntmps16
  go_wp2_with (refine wpList_store_all (.tmp 6) (.tmp 5) hb HS.out rfl rfl rfl ?_ rfl rfl rfl ?_; kernel_rfl; intro w' hs')
  refine end_end0 rfl rfl ?_
  exact ⟨rfl, PL.mk_ok (L := PL.new) hs' PL.new_ok⟩

theorem copy_nil (w : World) : Calls Try.prog 17 #[.pointer none] w fun e w' => e = .returned (.pointer none) ∧ w' = w := by
  go_enter Try.func17, Try.ntmps17
  go_wp2
  go_ret
  exact ⟨rfl, rfl⟩

set_option maxHeartbeats 400000 in
theorem copy_any (b : Nat) (L : PL) (hs : sat W (plist b L :: H) w) :
    Calls Try.prog 17 #[.pointer (some ⟨b, 0, none⟩)] w fun e w' => ∃ b', e = .returned (.pointer (some ⟨b', 0, none⟩)) ∧ sat W (plist b' L :: plist b L :: H) w' := by
  obtain ⟨hok, hb⟩ := hs.and_pure
  have hg := Lib.hid hb.heap
  have hsz : L.cells.size = 34 := by simp [PL.cells, hok.1]
  have hon : L.cells.all (·.oneCell') = true := by simp [PL.cells]; exact ⟨fun _ _ => rfl, rfl, rfl⟩
  have HO := Lib.hid hon
  have HS := Lib.hid hsz
  clear hsz hon
  have h2 := hs.alloc (.cells PL.new.cells 43)
  have hg2 := Lib.hid h2.heap
  go_enter Try.func17, Try.ntmps17
  go_wp2_with (first | (refine wpList_load_row rfl 43 _ rfl b rfl 43 L.cells (0, 0) _ hg.out Try.underlying43 rfl ?_ ?_; rw [HS.out]; kernel_rfl) | (refine wpList_store_row rfl 43 _ _ rfl w.heap.size L.cells rfl rfl 43 PL.new.cells hg2.out ?_ ?_ HO.out ?_; rw [HS.out]; kernel_rfl; rw [HS.out]; rfl))
  go_ret
  exact ⟨_, rfl, PL.mk_ok (h2.setRow _) hok⟩

theorem slty28 : SlTy Try.prog 28 3 1 8 := ⟨Try.underlying28, by obtain ⟨i0, hi, hz0, hz1, hz2⟩ := info_parts (show (Try.prog.info? 3).map (fun i => (i.zero, i.size, i.bytes)) = some (some (.int .i64 0), 1, 8) by kernel_rfl); exact ⟨i0, _, hi, hz0, hz1, hz2, rfl⟩, by decide⟩

set_option maxHeartbeats 400000 in
theorem values_nil (hs : sat W H w) : Calls Try.prog 11 #[.pointer none] w fun e w' => ∃ v, e = .returned v ∧ sat W (own 3 1 v 0 [] :: H) w' := by
  have hs0 := hs.own_nil 3 1
  go_enter Try.func11, Try.ntmps11
  go_wp2_with (first | (at_builtin; refine wpList_append_sat_none rfl _ _ 28 rfl slty28 rfl (hs0.drewN _) rfl ?_) | (go_at_call 21; refine (list_nil _).mono ?_; rintro e w' ⟨rfl, n1, rfl⟩))
  go_ret
  exact ⟨_, rfl, hs0.drewN _⟩

set_option maxHeartbeats 400000 in
theorem values_any (b : Nat) (L : PL) (hs : sat W (plist b L :: H) w) :
    Calls Try.prog 11 #[.pointer (some ⟨b, 0, none⟩)] w fun e w' => ∃ v, e = .returned v ∧ sat W (own 3 1 v L.n ((values L).map (Value.int .i64)) :: plist b L :: H) w' := by
  have hs0 := hs.own_nil 3 1
  have hp := PIn.of hs
  have hn := hp.1.2.1
  have hl := hp.1.1
  have hcell : ∀ j u, ((values L).map (Value.int .i64))[j]? = some u → w.cell? ((⟨b, 0, none⟩ : Addr).add j) = some u := by
    intro j u hu
    have hadd : (⟨b, 0, none⟩ : Addr).add j = ⟨b, j, none⟩ := by unfold Addr.add; split <;> simp_all
    rw [hadd]
    simp only [values, List.getElem?_map, List.getElem?_take] at hu
    by_cases hj : j < L.n
    · rw [if_pos hj] at hu
      have := hp.cl (i := j) (by omega)
      rw [List.getD_eq_getElem?_getD] at this
      rw [List.getElem?_eq_getElem (by omega)] at hu this
      rw [this]; simpa using hu
    · rw [if_neg hj] at hu; cases hu
  have HC := Lib.hid hcell
  clear hcell
  go_enter Try.func11, Try.ntmps11
  go_wp2_with (first | (at_builtin; refine wpList_append_sat rfl _ _ 28 rfl slty28 rfl (hs0.drewN _) rfl (by simp [values]; omega) HC.out (by intro u hu; obtain ⟨x, _, rfl⟩ := List.mem_map.1 hu; rfl) (by omega) (by unfold maxLen; omega) ?_; intro a' c' w' hs1) | (go_at_call 21; refine (list_any b L _ hp).mono ?_; rintro e w' ⟨rfl, n1, rfl⟩))
  go_ret
  exact ⟨_, rfl, by simpa using hs1⟩

end Go.Proofs.Ytappjlebkjmooaa
