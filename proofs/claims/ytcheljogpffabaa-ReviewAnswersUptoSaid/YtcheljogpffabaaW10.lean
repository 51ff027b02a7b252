/- Law 20: rows of runes, rows of words compared; the known text. -/
import Derived.Test.YtcheljogpffabaaW5
import Derived.Test.YtcheljogpffabaaW9
namespace Go.Proofs.Ytcheljogpffabaa
open Go.RowKit Go.Mem Go.Words
variable {W w : World} {H : List HProp}


theorem same_no (a b : Value) (xs ys : List Int) (w : World) (ha : Reads w a (xs.map (Value.int .i32))) (hb : Reads w b (ys.map (Value.int .i32))) (hne : xs.length ≠ ys.length) :
    Calls Try.prog 41 #[a, b] w fun e w' => e = .returned (.bool (decide (xs = ys))) ∧ ∃ n, w' = w.drewN n := by
  have HF := Lib.hid (show decide (xs = ys) = false by simp; rintro rfl; exact hne rfl)
  obtain ⟨h1, a, c, rfl, _⟩ := ha
  obtain ⟨h2, b, c', rfl, _⟩ := hb
  simp only [List.length_map] at *
  have e1 : ((xs.length : Int) != (ys.length : Int)) = true := by simp; omega
  unfold maxLen at h1 h2
  go_enter Try.func41, Try.ntmps41
  go_wp2
  go_ret
  exact ⟨ret_bool HF.out, 0, (World.drewN_zero w).symm⟩

set_option maxHeartbeats 400000 in
theorem same_eq (a b : Value) (xs ys : List Int) (w : World) (ha : Reads w a (xs.map (Value.int .i32))) (hb : Reads w b (ys.map (Value.int .i32))) (hne : xs.length = ys.length) :
    Calls Try.prog 41 #[a, b] w fun e w' => e = .returned (.bool (decide (xs = ys))) ∧ ∃ n, w' = w.drewN n := by
  obtain ⟨h1, a, c, rfl, ka⟩ := ha
  obtain ⟨h2, b, c', rfl, kb⟩ := hb
  simp only [List.length_map] at *
  obtain ⟨n, hn⟩ : ∃ n, n = xs.length := ⟨_, rfl⟩
  have hn2 : n = ys.length := by omega
  have ga : 0 < n → ∃ g off, a = some ⟨g, off, none⟩ ∧ ∀ i, i < n → w.cell? ⟨g, off + i, none⟩ = some (.int .i32 (xs.getD i 0)) := fun hp => by
    obtain ⟨g, off, rfl, hc⟩ := ka (by intro h; simp at h; subst h; simp at hn; omega)
    exact ⟨g, off, rfl, fun i hi => hc i _ (ints_get (by omega))⟩
  have gb : 0 < n → ∃ g off, b = some ⟨g, off, none⟩ ∧ ∀ i, i < n → w.cell? ⟨g, off + i, none⟩ = some (.int .i32 (ys.getD i 0)) := fun hp => by
    obtain ⟨g, off, rfl, hc⟩ := kb (by intro h; simp at h; subst h; simp at hn2; omega)
    exact ⟨g, off, rfl, fun i hi => hc i _ (ints_get (by omega))⟩
  have HN := Lib.hid hn
  have HN2 := Lib.hid hn2
  rw [← hn] at h1
  rw [← hn, ← hn2]
  clear ka kb hne hn hn2 h2
  unfold maxLen at h1
  have e1 : ((n : Int) != (n : Int)) = false := by simp
  have HA := Lib.hid ga
  have HB := Lib.hid gb
  clear ga gb
  go_enter Try.func41, Try.ntmps41
  go_wp2
  go_loopw [5] (fun i wr => ∃ k : Nat, k ≤ n ∧ i = .int .i64 k ∧ (∀ j, j < k → xs.getD j 0 = ys.getD j 0) ∧ ∃ m, wr = w.drewN m) (fun i _ => n - (intOf i).toNat)
  case atStart => exact ⟨0, Nat.zero_le _, rfl, fun j hj => by omega, 0, (World.drewN_zero w).symm⟩
  case round =>
    obtain ⟨k, hk, rfl, hj, m, rfl⟩ := hrel
    have HJ := Lib.hid hj
    clear hj
    by_cases hlt : k < n
    · obtain ⟨g, off, rfl, hc⟩ := HA.out (by omega)
      obtain ⟨g', off', rfl, hc'⟩ := HB.out (by omega)
      have c1 := hc k hlt
      have c2 := hc' k hlt
      clear hc hc'
      generalize hx : xs.getD k 0 = x at *
      generalize hy : ys.getD k 0 = y at *
      have HX := Lib.hid hx
      have HY := Lib.hid hy
      clear hx hy
      by_cases hxy : x = y
      · have e2 : (x != y) = false := by simpa using hxy
        have HXY := Lib.hid hxy
        clear hxy
        go_wp2
        go_quiet (fail)
        go_wp2
        go_roundw
        case rel => exact ⟨k + 1, by omega, by go_num, fun j hj => by
          by_cases e : j = k
          · subst e; rw [HX.out, HY.out, HXY.out]
          · exact HJ.out j (by omega), _, rfl⟩
        case measure => simp [intOf]; omega
      · have e2 : (x != y) = true := by simpa using hxy
        have HF := Lib.hid (show decide (xs = ys) = false by simp; intro h; rw [← HX.out, ← HY.out, h] at hxy; exact hxy rfl)
        clear hxy
        go_wp2
        go_quiet (fail)
        go_wp2
        go_ret
        exact ⟨ret_bool HF.out, _, World.drewN_drewN _ _ _⟩
    · have HF := Lib.hid (show decide (xs = ys) = true by
        simp only [decide_eq_true_eq]
        have h1 := HN.out
        have h2 := HN2.out
        apply List.ext_getElem (by omega)
        intro i h3 h4
        have := HJ.out i (by omega)
        rw [List.getD_eq_getElem?_getD, List.getD_eq_getElem?_getD, List.getElem?_eq_getElem h3, List.getElem?_eq_getElem h4] at this
        exact this)
      go_wp2
      go_ret
      exact ⟨ret_bool HF.out, _, rfl⟩

theorem same_any (a b : Value) (xs ys : List Int) (w : World) (ha : Reads w a (xs.map (Value.int .i32))) (hb : Reads w b (ys.map (Value.int .i32))) :
    Calls Try.prog 41 #[a, b] w fun e w' => e = .returned (.bool (decide (xs = ys))) ∧ ∃ n, w' = w.drewN n := by
  by_cases h : xs.length = ys.length
  · exact same_eq a b xs ys w ha hb h
  · exact same_no a b xs ys w ha hb h

theorem same_self (a b : Value) (xs : List Int) (w : World) (ha : Reads w a (xs.map (Value.int .i32))) (hb : Reads w b (xs.map (Value.int .i32))) :
    Calls Try.prog 41 #[a, b] w fun e w' => e = .returned (.bool true) ∧ ∃ n, w' = w.drewN n :=
  (same_any a b xs xs w ha hb).mono fun e w' ⟨he, hn⟩ => ⟨by rw [he, decide_eq_true rfl], hn⟩

theorem SR.of_cel {size b n : Nat} {T : TypeId} {L : List (List Value)} (hp : 0 < size) (hn : n = L.length) (hm : n ≤ maxLen) (hl : ∀ r ∈ L, r.length = size) : SR size W (cel b T L.flatten :: H) (some ⟨b, 0, none⟩) n n L :=
  ⟨hn, Nat.le_refl _, hm, fun w' hs i cs hi => by
    have hcs := hl cs (List.mem_of_getElem? hi)
    refine ⟨hcs, b, 0, rfl, fun j v hj => ?_⟩
    have hj' : j < size := by rw [← hcs]; exact (List.getElem?_eq_some_iff.1 hj).1
    exact hs.cel_cell (by rw [Nat.zero_add, flat_get L i j cs hl hi hj', hj])⟩
theorem exs_sr {a : Option Addr} {n c : Nat} {L : List (Nat × Nat)} (hs : sat W (own 87 2 (.slice a n c) n (exs L) :: H) w) : SR 2 W (own 87 2 (.slice a n c) n (exs L) :: H) a n c (L.map exC) :=
  SR.of_own hs (by decide) (by intro r hr; obtain ⟨p, _, rfl⟩ := List.mem_map.1 hr; rfl)
attribute [local irreducible] World.setCell World.setCells World.alloc World.drew World.drewN Calls sat cel own blk old wpQuiet wpList tx
abbrev fiveL : List Cm := [⟨⟨97, [], 0⟩, none, 0, 0, 0, 0⟩, ⟨⟨32, [], 0⟩, none, 0, 0, 0, 0⟩, ⟨⟨19968, [], 1⟩, none, 0, 0, 0, 0⟩, ⟨⟨0, [], 2⟩, none, 0, 0, 0, 0⟩, ⟨⟨98, [], 0⟩, none, 0, 0, 0, 0⟩]
theorem five_cs {z : Nat} : CS W (cel z 60 (fiveL.map cmV).flatten :: H) (some ⟨z, 0, none⟩) 5 5 fiveL :=
  ⟨SR.of_cel (by decide) rfl (by unfold maxLen; omega) (by intro r hr; obtain ⟨p, _, rfl⟩ := List.mem_map.1 hr; rfl), by
    intro m hm w' _
    have : m.ca = none ∧ m.c.comb = [] ∧ m.cc = 0 := by
      simp only [fiveL, List.mem_cons, List.not_mem_nil, or_false] at hm
      rcases hm with rfl | rfl | rfl | rfl | rfl <;> exact ⟨rfl, rfl, rfl⟩
    rw [this.1, this.2.1, this.2.2]
    exact ⟨Nat.zero_le _, none, 0, rfl, fun h => (h rfl).elim⟩⟩
abbrev fiveB : List Bool := [false, true, false, false, false]
theorem five_words : words fiveB = [(0, 1), (2, 5)] := by
  unfold words
  rw [words_one (by decide) (by decide), show stop fiveB 0 = 1 from rfl, words_one (i := 1 + 1) (by decide) (by decide), show stop fiveB (1 + 1) = 5 from rfl, words_end (by decide)]
theorem five_text : textOf (cl fiveL) = ⟨[97, 32, 19968, 98], [0, 1, 2, 2, 3, 4], [0, 1, 2, 4], fiveB⟩ := by rfl
theorem of9_t {a : Option Addr} {n cp : Nat} {L : List Cm} {x : Tx} (e : textOf (cl L) = x) (hc : CS W H a n cp L) (hz : size (cl L) ≤ 600) (hs : sat W H w) : Calls Try.prog 69 #[.slice a n cp] w fun e w' => ∃ t, e = .returned (.pointer (some ⟨t, 0, none⟩)) ∧ sat W (tx t x :: H) w' := e ▸ of9 hc hz hs
variable {t : Nat} {x : Tx}
theorem ws_tx {ws : List (Nat × Nat)} (e : words x.blank = ws) (hn : x.blank.length ≤ 1000) : Ws (some ⟨t, 0, none⟩) [tx t x] ws := fun z => e ▸ all39 hn
theorem ws_nil : Ws none [] [] := fun z => all39_nil
theorem words_t {ws : List (Nat × Nat)} {n : Nat} (e : words x.blank = ws) (e2 : ws.length = n) (hn : x.blank.length ≤ 1000) (hs : sat W (tx t x :: H) w) : Calls Try.prog 58 #[.pointer (some ⟨t, 0, none⟩)] w fun e w' => ∃ a c, e = .returned (.slice a n c) ∧ sat W (own 87 2 (.slice a n c) n (exs ws) :: tx t x :: H) w' := by
  have hl : ws.length ≤ 1000 := by have := words_len x.blank _ 0 rfl; rw [← e]; unfold words; omega
  subst e2
  exact words14 (Hc := [tx t x]) (ws_tx e hn) hl hs
theorem next_t {ws : List (Nat × Nat)} {col r : Int} (e : words x.blank = ws) (e2 : nextW ws col = r) (hn : x.blank.length ≤ 1000) (hs : sat W (tx t x :: H) w) : Calls Try.prog 56 #[.pointer (some ⟨t, 0, none⟩), .int .i64 col] w fun e w' => e = .returned (.int .i64 r) ∧ sat W (tx t x :: H) w' := e2 ▸ next15 (Hc := [tx t x]) (ws_tx e hn) col hs
theorem prev_t {ws : List (Nat × Nat)} {col r : Int} (e : words x.blank = ws) (e2 : prevW ws col = r) (hn : x.blank.length ≤ 1000) (hs : sat W (tx t x :: H) w) : Calls Try.prog 55 #[.pointer (some ⟨t, 0, none⟩), .int .i64 col] w fun e w' => e = .returned (.int .i64 r) ∧ sat W (tx t x :: H) w' := e2 ▸ prev16 (Hc := [tx t x]) (ws_tx e hn) col hs
theorem runes22_t {a b : Value} {xs : List Int} (ha : Reads w a (i32s xs)) (hb : Reads w b (i32s xs)) (hs : sat W H w) : Calls Try.prog 41 #[a, b] w fun e w' => e = .returned (.bool true) ∧ sat W H w' :=
  (same_self a b xs w ha hb).mono fun e w' ⟨he, n, hn⟩ => ⟨he, by rw [hn]; exact hs.drewN n⟩
end Go.Proofs.Ytcheljogpffabaa
