import Derived.Test.YtdbhgjkdblhhkaaP18
namespace Go.Pan
variable {cells : List Int} {w : Nat} {hw : 0 < w}
theorem begs_ub : ∀ (m b : Nat), cells.length - b ≤ m → b ≤ cells.length → ∀ x ∈ begs cells w hw b, x ≤ cells.length
  | 0, b, h, hb, x, hx => by
    rw [begs_last (by omega)] at hx
    rw [List.mem_singleton.1 hx]; exact hb
  | m + 1, b, h, hbl, x, hx => by
    by_cases hb : w < cells.length - b
    · rw [begs_more hb] at hx
      have h1 := next_gt (cells := cells) (b := b) hw
      have h2 := next_le (cells := cells) (w := w) (b := b)
      rcases List.mem_cons.1 hx with rfl | hx
      · exact hbl
      · exact begs_ub m (next cells w b) (by omega) (by omega) x hx
    · rw [begs_last hb] at hx
      rw [List.mem_singleton.1 hx]; exact hbl
theorem lastB_ub {m : Nat} {most : Int} : ∀ (l : List Nat) (at' : Nat), at' ≤ m → (∀ x ∈ l, x ≤ m) → lastB most at' l ≤ m
  | [], at', h, _ => by rw [lastB]; exact h
  | x :: l, at', h, hl => by
    rw [lastB]
    split
    · exact h
    · exact lastB_ub l x (hl x List.mem_cons_self) fun y hy => hl y (List.mem_cons_of_mem _ hy)
end Go.Pan
namespace Go.Proofs.Ytdbhgjkdblhhkaa
open Go.RowKit Go.Mem
variable {W w : World} {H : List HProp}
theorem lastOf_ub (cells : List Int) (wd : Nat) (hw : 0 < wd) (most : Int) : lastOf cells wd hw most ≤ cells.length :=
  Pan.lastB_ub _ _ (Nat.zero_le _) (Pan.begs_ub cells.length 0 (by omega) (Nat.zero_le _))
theorem find_ub (cells : List Int) (wd : Nat) (hw : 0 < wd) {p : Nat → Bool} {y : Nat} (h : (Pan.begs cells wd hw 0).find? p = some y) : y ≤ cells.length :=
  Pan.begs_ub cells.length 0 (by omega) (Nat.zero_le _) y (List.mem_of_find?_eq_some h)
/-- Numbers as a string. -/
def sI (l : List Int) : ByteArray := bs (l.map Int.toNat)
theorem bytes_nums {l : List Int} (hb : ∀ x ∈ l, 0 ≤ x) : bytesV l = nums .u8 (l.map Int.toNat) := by
  unfold nums
  rw [List.map_map]
  apply List.map_congr_left
  intro x hx
  show Value.int .u8 x = Value.int .u8 (x.toNat : Int)
  rw [Int.toNat_of_nonneg (hb x hx)]
theorem cvI {P : Program} {o : Oper} {ops : Array Oper} {rest : List Oper} {a : Act} {Q : Exit → Act → World → Prop} {src dst e : TypeId} {x : Operand} {v : Value} (l : List Int) (hb : ∀ x ∈ l, 0 ≤ x) (ho : o.op = .convert src dst x) (hw : Region.wanted o (yielded ops a.tmps) = true) (hx : a.eval x = v)
    (hs : P.underlying src = some (.slice e)) (he : P.underlying e = some (.int .u8)) (hd : P.underlying dst = some .string) (hr : Reads w v (bytesV l))
    (h : wpList P ops Q rest (a.put o.dst (.string (sI l))) w) : wpList P ops Q (o :: rest) a w :=
  cvs ho hw hx hs he hd (bytes_nums hb ▸ hr) h
theorem cvIq {P : Program} {o : Oper} {ops : Array Oper} {rest : List Oper} {a : Act} {X : Type} {f : X → World} {Q : Act → Prop} {src dst e : TypeId} {x : Operand} {v : Value} (l : List Int) (hb : ∀ x ∈ l, 0 ≤ x) (ho : o.op = .convert src dst x) (hw : Region.wanted o (yielded ops a.tmps) = true) (hx : a.eval x = v)
    (hs : P.underlying src = some (.slice e)) (he : P.underlying e = some (.int .u8)) (hd : P.underlying dst = some .string) (hr : ∀ x, Reads (f x) v (bytesV l))
    (h : wpQuiet P ops (fun w' => ∃ x : X, w' = f x) Q rest (a.put o.dst (.string (sI l)))) : wpQuiet P ops (fun w' => ∃ x : X, w' = f x) Q (o :: rest) a :=
  cvsq ho hw hx hs he hd (fun x => bytes_nums hb ▸ hr x) h
theorem bytesV_set (l : List Int) (k : Nat) (x : Int) : (bytesV l).set k (.int .u8 x) = bytesV (l.set k x) := by
  unfold bytesV; rw [List.map_set]
theorem bytesV_get {l : List Int} {k : Nat} (h : k < l.length) : (bytesV l)[k]? = some (.int .u8 (l.getD k 0)) := by
  simp [h]
theorem bytesV_some {l : List Int} {k : Nat} (h : k < l.length) : (bytesV l)[k]?.isSome = true := by
  simp [h]
theorem showL_pos {cells : List Int} {wd o : Nat} (h : ∀ x ∈ cells, 0 ≤ x ∧ x < 256) : ∀ x ∈ showL cells wd o, 0 ≤ x := by
  intro x hx
  obtain ⟨k, hk⟩ := List.mem_iff_getElem?.1 hx
  have hkl : k < wd := by
    have := (List.getElem?_eq_some_iff.1 hk).1
    rw [showL_len] at this
    exact this
  rw [showL_at hkl] at hk
  cases hk
  split
  · rename_i hl
    rw [List.getD_eq_getElem?_getD, List.getElem?_eq_getElem hl]
    exact (h _ (List.getElem_mem hl)).1
  · exact Int.le_refl _
theorem rem_at (nn : Int) {n : Nat} (h : 0 < n) : ∃ q : Nat, q < n ∧ (IntKind.u64.wrap nn).tmod (n : Int) = (q : Int) := by
  have h0 : 0 ≤ IntKind.u64.wrap nn := by unfold IntKind.wrap; simp [IntKind.signed, IntKind.bits]; omega
  refine ⟨((IntKind.u64.wrap nn).tmod (n : Int)).toNat, ?_, ?_⟩
  · rw [Int.tmod_eq_emod_of_nonneg h0]
    have := Int.emod_lt_of_pos (IntKind.u64.wrap nn) (show 0 < (n : Int) by omega)
    have := Int.emod_nonneg (IntKind.u64.wrap nn) (show (n : Int) ≠ 0 by omega)
    omega
  · rw [Int.tmod_eq_emod_of_nonneg h0]
    have := Int.emod_nonneg (IntKind.u64.wrap nn) (show (n : Int) ≠ 0 by omega)
    omega
theorem row46 : rowTy Try.prog 46 3 = true := by kernel_rfl
section
variable {cells : List Int} {Hc : List HProp} {a : Option Addr} {n c wd off b : Nat}
theorem rright_yes (hw : 0 < wd) (hw2 : wd ≤ 80) (hr : RdC Hc a n c cells) (hg : n ≤ 1000) {o y : Nat} (ho : lastOf cells wd hw (off : Int) = o) (hy : (Pan.begs cells wd hw 0).find? (fun y => decide (o < y)) = some y) (hs : sat W (cel b 44 (winL wd off) :: (Hc ++ H)) w) :
    Calls Try.prog 21 #[.pointer (some ⟨b, 0, none⟩), .slice a n c] w fun e w' => e = .returned (.bool true) ∧ sat W (cel b 44 (winL wd y) :: (Hc ++ H)) w' :=
  (rright21 hw hw2 hr hg ho hs).mono fun e w' h => by
    rcases h with ⟨x, hx, he, h⟩ | ⟨hx, _⟩
    · rw [hy] at hx; cases hx; exact ⟨he, h⟩
    · rw [hy] at hx; cases hx
theorem rright_no (hw : 0 < wd) (hw2 : wd ≤ 80) (hr : RdC Hc a n c cells) (hg : n ≤ 1000) {o : Nat} (ho : lastOf cells wd hw (off : Int) = o) (hy : (Pan.begs cells wd hw 0).find? (fun y => decide (o < y)) = none) (hs : sat W (cel b 44 (winL wd off) :: (Hc ++ H)) w) :
    Calls Try.prog 21 #[.pointer (some ⟨b, 0, none⟩), .slice a n c] w fun e w' => e = .returned (.bool false) ∧ sat W (cel b 44 (winL wd o) :: (Hc ++ H)) w' :=
  (rright21 hw hw2 hr hg ho hs).mono fun e w' h => by
    rcases h with ⟨x, hx, _⟩ | ⟨hx, he, h⟩
    · rw [hy] at hx; cases hx
    · exact ⟨he, h⟩
end
end Go.Proofs.Ytdbhgjkdblhhkaa
