/-
  Bytes in the small logic of memory: a slice that reads as numbers; a string of numbers.
-/
import Derived.Test.YtdcagaaanbgcoaaSat
import Derived.Laws.BytesArg
import Derived.Deep.RegionHeld3
import Derived.Laws.RangeAny
import Derived.Laws.Cover4
import Derived.Lib.OthersKept
namespace Go.Mem
open Go.RowKit
variable {W w : World} {H : List HProp} {P : Program} {o : Oper} {ops : Array Oper} {rest : List Oper} {a : Act} {Q : Exit → Act → World → Prop}

/-- A load, the cell being known. -/
theorem ldc {x : Operand} {ty : TypeId} {ad : Addr} {v : Value} (ho : o.op = .load ty x) (hw : Region.wanted o (yielded ops a.tmps) = true) (hx : a.eval x = .pointer (some ad))
    (hv : w.cell? ad = some v) (ht : oneTy P ty = true) (h : wpList P ops Q rest (a.put o.dst v) w) : wpList P ops Q (o :: rest) a w := by
  refine BigFrame.wpList_want hw fun K hK => ?_
  unfold Oper.wp execOp
  simp only [ho, hx, Sem.run_bind, Sem.run_pure, Result.andThen_ok, run_loadAt_one ht hv]
  exact hK _ _ h
theorem ldct {x : Operand} {ty : TypeId} {ad : Addr} {v : Value} {Q : Act → Prop} (ho : o.op = .load ty x) (hw : Region.wanted o (yielded ops a.tmps) = true) (hx : a.eval x = .pointer (some ad))
    (hv : w.cell? ad = some v) (ht : oneTy P ty = true) (h : wpQuiet P ops (fun w' => w' = w) Q rest (a.put o.dst v)) : wpQuiet P ops (fun w' => w' = w) Q (o :: rest) a := by
  refine BigFrame.wpQuiet_want hw fun K hK => ⟨v, ?_, hK _ h⟩
  rintro _ rfl
  unfold Oper.quietAt execOp
  simp only [ho, hx, Sem.run_bind, Sem.run_pure, Result.andThen_ok, run_loadAt_one ht hv]
  exact ⟨rfl, rfl⟩
theorem ldcq {X : Type} {f : X → World} {x : Operand} {ty : TypeId} {ad : Addr} {v : Value} {Q : Act → Prop} (ho : o.op = .load ty x) (hw : Region.wanted o (yielded ops a.tmps) = true) (hx : a.eval x = .pointer (some ad))
    (hv : ∀ x, (f x).cell? ad = some v) (ht : oneTy P ty = true) (h : wpQuiet P ops (fun w' => ∃ x : X, w' = f x) Q rest (a.put o.dst v)) : wpQuiet P ops (fun w' => ∃ x : X, w' = f x) Q (o :: rest) a := by
  refine BigFrame.wpQuiet_want hw fun K hK => ⟨v, ?_, hK _ h⟩
  rintro _ ⟨x, rfl⟩
  unfold Oper.quietAt execOp
  simp only [ho, hx, Sem.run_bind, Sem.run_pure, Result.andThen_ok, run_loadAt_one ht (hv x)]
  exact ⟨rfl, rfl⟩

/-- The cells of a slice that reads as xs in every world that meets what is known. -/
theorem reads_cells {xs : List Value} {ad : Option Addr} {n c : Nat} (hr : ∀ w', sat W H w' → Reads w' (.slice ad n c) xs) (hs : sat W H w) (hn : 0 < xs.length) :
    n = xs.length ∧ ∃ b off, ad = some ⟨b, off, none⟩ ∧ ∀ w', sat W H w' → ∀ i u, xs[i]? = some u → w'.cell? ⟨b, off + i, none⟩ = some u := by
  obtain ⟨_, a1, c1, e, h1⟩ := hr w hs
  cases e
  obtain ⟨b, off, rfl, _⟩ := h1 (by intro e; rw [e] at hn; cases hn)
  refine ⟨rfl, b, off, rfl, fun w' hw => ?_⟩
  obtain ⟨_, a2, c2, e2, h2⟩ := hr w' hw
  obtain ⟨rfl, _⟩ : a2 = some ⟨b, off, none⟩ ∧ c2 = c := by cases e2; exact ⟨rfl, rfl⟩
  obtain ⟨b', off', e3, h3⟩ := h2 (by intro e; rw [e] at hn; cases hn)
  cases e3
  exact h3
theorem reads_len {xs : List Value} {ad : Option Addr} {n c : Nat} {w : World} (h : Reads w (.slice ad n c) xs) : n = xs.length ∧ xs.length ≤ maxLen := by
  obtain ⟨h0, a1, c1, e, _⟩ := h
  cases e
  exact ⟨rfl, h0⟩

/-- Numbers as values. -/
def nums (k : IntKind) (l : List Nat) : List Value := l.map fun n : Nat => Value.int k (n : Int)
theorem nums_length (k : IntKind) (l : List Nat) : (nums k l).length = l.length := by simp [nums]
theorem nums_get {k : IntKind} {l : List Nat} {i : Nat} (h : i < l.length) : (nums k l)[i]? = some (.int k (l.getD i 0 : Nat)) := by
  simp [nums, h]
theorem nums_append (k : IntKind) (l m : List Nat) : nums k (l ++ m) = nums k l ++ nums k m := by simp [nums]
/-- A string, by its bytes. -/
def bs (l : List Nat) : ByteArray := ⟨(l.map UInt8.ofNat).toArray⟩
theorem ba_ext {a b : ByteArray} (h : a.data.toList = b.data.toList) : a = b := by
  cases a; cases b; simp only [ByteArray.mk.injEq]; exact Array.toList_inj.1 h
theorem bs_append (a b : List Nat) : bs (a ++ b) = bs a ++ bs b := ba_ext (by simp [bs, ByteArray.data_append])
theorem bs_nil : bs [] = ⟨#[]⟩ := rfl
theorem bs_one (n : Nat) : bs [n] = ⟨#[UInt8.ofNat n]⟩ := rfl
theorem bs_size (l : List Nat) : (bs l).size = l.length := by simp [bs, ByteArray.size]
theorem str_empty {l : List Nat} : (bs l).toList.isEmpty = l.isEmpty := by rw [Go.ByteArray.toList_eq]; cases l <;> rfl
theorem str_nil {l : List Nat} : (bs l).toList = [] ↔ l = [] := by rw [Go.ByteArray.toList_eq]; cases l <;> simp [bs]
theorem str_eq {a b : ByteArray} (h : a = b) : (a.toList == b.toList) = true := by rw [h, beq_iff_eq]
theorem str_ne {a b : ByteArray} (h : a ≠ b) : (a.toList == b.toList) = false := by
  rw [beq_eq_false_iff_ne]; intro e; rw [Go.ByteArray.toList_eq, Go.ByteArray.toList_eq] at e; exact h (ba_ext e)
def by_ (s : ByteArray) : List Nat := s.data.toList.map UInt8.toNat
theorem by_lt (s : ByteArray) : ∀ b ∈ by_ s, b < 256 := by
  intro b hb
  obtain ⟨c, _, rfl⟩ := List.mem_map.1 hb
  exact c.toNat_lt
theorem of_to : ∀ l : List UInt8, (l.map UInt8.toNat).map UInt8.ofNat = l
  | [] => rfl
  | c :: l => by rw [List.map_cons, List.map_cons, of_to l, UInt8.ofNat_toNat]
theorem to_of : ∀ l : List Nat, (∀ x ∈ l, x < 256) → (l.map UInt8.ofNat).map UInt8.toNat = l
  | [], _ => rfl
  | c :: l, h => by
    rw [List.map_cons, List.map_cons, to_of l (fun x hx => h x (List.mem_cons_of_mem _ hx)), UInt8.toNat_ofNat_of_lt' (h c (List.mem_cons_self ..))]
theorem bs_by (s : ByteArray) : bs (by_ s) = s := ba_ext (by show (s.data.toList.map UInt8.toNat).map UInt8.ofNat = _; exact of_to _)
theorem by_bs (l : List Nat) (h : ∀ x ∈ l, x < 256) : by_ (bs l) = l := by show ((l.map UInt8.ofNat).toArray.toList).map UInt8.toNat = l; rw [to_of l h]
theorem by_inj {a b : ByteArray} (h : by_ a = by_ b) : a = b := by rw [← bs_by a, ← bs_by b, h]
theorem bs_inj {a b : List Nat} (ha : ∀ x ∈ a, x < 256) (hb : ∀ x ∈ b, x < 256) (h : bs a = bs b) : a = b := by rw [← by_bs a ha, ← by_bs b hb, h]
theorem by_size (s : ByteArray) : (by_ s).length = s.size := by unfold by_; rw [List.length_map, Array.length_toList]; rfl
theorem by_append (a b : ByteArray) : by_ (a ++ b) = by_ a ++ by_ b := by simp [by_, ByteArray.data_append]
theorem bs_nums (l : List Nat) : strOfNums (l.map fun n : Nat => (n : Int)) = bs l := ba_ext (by rw [strOfNums_data]; simp [bs])

/-- string(b). -/
theorem run_str {src dst e : TypeId} {v : Value} {l : List Nat} (hs : P.underlying src = some (.slice e)) (he : P.underlying e = some (.int .u8)) (hd : P.underlying dst = some .string)
    (h : Reads w v (nums .u8 l)) : (convert src dst v).run P w = .ok (.string (bs l)) w := by
  obtain ⟨h0, ad, cap, rfl, hc⟩ := h
  rw [run_convert_bytes_string w src dst e _ _ _ hs he hd]
  cases l with
  | nil =>
    cases ad with
    | none => rfl
    | some x =>
      rw [run_bytesToString w x _ cap [] (by simp [nums, loadCells]; rfl)]; rfl
  | cons n l =>
    obtain ⟨b, off, rfl, hv⟩ := hc (by simp [nums])
    rw [run_bytesToString w ⟨b, off, none⟩ _ cap ((n :: l).map fun n : Nat => (n : Int)) ?_, foldl_push_bytes]
    · exact congrArg (fun x => Result.ok (Value.string x) w) (ba_ext (by simp [bs]))
    · rw [run_loadCells w ⟨b, off, none⟩ (nums .u8 (n :: l)).length (fun j => (nums .u8 (n :: l)).getD j undef) (fun j hj => ?_)]
      · congr 1
        apply Array.toList_inj.1
        apply List.ext_getElem
        · simp [nums]
        · intro i h1 h2
          simp [nums] at h1 ⊢
          simp [h1, Function.comp_def]
      · rw [add_none]
        exact hv j _ (by rw [List.getD_eq_getElem?_getD, List.getElem?_eq_getElem hj]; rfl)
theorem reads_one {w : World} {v : Value} {k : IntKind} {n m : Int} (h : Reads w v [.int k n]) (e : n = m) : Reads w v [.int k m] := e ▸ h
theorem cvs {src dst e : TypeId} {x : Operand} {v : Value} {l : List Nat} (ho : o.op = .convert src dst x) (hw : Region.wanted o (yielded ops a.tmps) = true) (hx : a.eval x = v)
    (hs : P.underlying src = some (.slice e)) (he : P.underlying e = some (.int .u8)) (hd : P.underlying dst = some .string) (hr : Reads w v (nums .u8 l))
    (h : wpList P ops Q rest (a.put o.dst (.string (bs l))) w) : wpList P ops Q (o :: rest) a w := by
  refine BigFrame.wpList_want hw fun K hK => ?_
  unfold Oper.wp execOp
  simp only [ho, hx, Sem.run_bind, Sem.run_pure, Result.andThen_ok, run_str hs he hd hr]
  exact hK _ _ h
/-! ## A string's iterator; a slice of runes as a string -/
def si (b : Nat) (s : ByteArray) (pos : Nat) : HProp := blk b (.stringIter s pos)
theorem sat.iter (hs : sat W H w) (s : ByteArray) : sat W (si w.heap.size s 0 :: H) (w.iter s 0) := hs.alloc _
theorem sat.iter_pos {b pos : Nat} {s : ByteArray} (hs : sat W (si b s pos :: H) w) : w.iterPos b = pos := by
  have := sat.heap hs
  simp only [World.iterPos, this]
theorem wrapi {s : ByteArray} (hs : sat W H w) (h : ∀ w', sat W (si w.heap.size s 0 :: H) w' → wpList P ops Q rest a w') : wpList P ops Q rest a (w.iter s 0) := h _ (hs.alloc _)
theorem nxi {x : Operand} {b pos : Nat} {s : ByteArray} (hs : sat W (si b s pos :: H) w) (ho : o.op = .next x true) (hw : Region.wanted o (yielded ops a.tmps) = true) (hx : a.eval x = .pointer (some ⟨b, 0, none⟩)) (hp : pos < s.size)
    (h : ∀ w', sat W (si b s (pos + (Utf8.decode s pos).2) :: H) w' → wpList P ops Q rest (a.put o.dst (.tuple #[.bool true, .int .i64 pos, .int .i32 ((Utf8.decode s pos).1 : Nat)])) w') : wpList P ops Q (o :: rest) a w := by
  refine BigFrame.wpList_want hw fun K hK => ?_
  have hr := Lib.run_next_any_at (P := P) w b s pos o.type (sat.heap hs) hp
  unfold Oper.wp execOp
  simp only [ho, hx, Sem.run_bind, Sem.run_pure, Result.andThen_ok, hr]
  exact hK _ _ (h _ (hs.turn rfl rfl rfl (Lib.iterAt_heap w b s pos _ (sat.heap hs)) fun k _ hk => Lib.iterAt_other w b k s _ hk))
theorem nxd {x : Operand} {b pos r wd : Nat} {s : ByteArray} (hs : sat W (si b s pos :: H) w) (ho : o.op = .next x true) (hw : Region.wanted o (yielded ops a.tmps) = true) (hx : a.eval x = .pointer (some ⟨b, 0, none⟩)) (hp : pos < s.size) (hd : Utf8.decode s pos = (r, wd))
    (h : ∀ w', sat W (si b s (pos + wd) :: H) w' → wpList P ops Q rest (a.put o.dst (.tuple #[.bool true, .int .i64 pos, .int .i32 r])) w') : wpList P ops Q (o :: rest) a w := by
  have := nxi (P := P) (ops := ops) (rest := rest) (o := o) (a := a) (Q := Q) hs ho hw hx hp
  rw [hd] at this
  exact this h
theorem nxe {x : Operand} {b pos : Nat} {s : ByteArray} (hs : sat W (si b s pos :: H) w) (ho : o.op = .next x true) (hw : Region.wanted o (yielded ops a.tmps) = true) (hx : a.eval x = .pointer (some ⟨b, 0, none⟩)) (hp : ¬ pos < s.size)
    (h : wpList P ops Q rest (a.put o.dst (.tuple #[.bool false])) w) : wpList P ops Q (o :: rest) a w := by
  refine BigFrame.wpList_want hw fun K hK => ?_
  have hr := Lib.run_next_end_at (P := P) w b s pos o.type (sat.heap hs) hp
  unfold Oper.wp execOp
  simp only [ho, hx, Sem.run_bind, Sem.run_pure, Result.andThen_ok, hr]
  exact hK _ _ h
theorem run_rstr {src dst e : TypeId} {v : Value} {l : List Int} (hs : P.underlying src = some (.slice e)) (he : P.underlying e = some (.int .i32)) (hd : P.underlying dst = some .string)
    (h : Reads w v (l.map (Value.int .i32))) : (convert src dst v).run P w = .ok (.string (runesBytes l)) w := by
  obtain ⟨h0, ad, cap, rfl, hc⟩ := h
  rw [run_convert_runes_string w src dst e _ _ _ hs he hd]
  cases l with
  | nil =>
    cases ad with
    | none => rfl
    | some x => rw [run_runesToString w x _ cap [] (by simp [loadCells]; rfl)]
  | cons n l =>
    obtain ⟨b, off, rfl, hv⟩ := hc (by simp)
    rw [run_runesToString w ⟨b, off, none⟩ _ cap (n :: l) ?_]
    rw [run_loadCells w ⟨b, off, none⟩ ((n :: l).map (Value.int .i32)).length (fun j => ((n :: l).map (Value.int .i32)).getD j undef) (fun j hj => ?_)]
    · congr 1
      apply Array.toList_inj.1
      apply List.ext_getElem
      · simp
      · intro i h1 h2
        simp at h1 ⊢
        simp [h1]
    · rw [add_none]
      exact hv j _ (by rw [List.getD_eq_getElem?_getD, List.getElem?_eq_getElem hj]; rfl)
theorem cvr {src dst e : TypeId} {x : Operand} {v : Value} {l : List Int} (ho : o.op = .convert src dst x) (hw : Region.wanted o (yielded ops a.tmps) = true) (hx : a.eval x = v)
    (hs : P.underlying src = some (.slice e)) (he : P.underlying e = some (.int .i32)) (hd : P.underlying dst = some .string) (hr : Reads w v (l.map (Value.int .i32)))
    (h : wpList P ops Q rest (a.put o.dst (.string (runesBytes l))) w) : wpList P ops Q (o :: rest) a w := by
  refine BigFrame.wpList_want hw fun K hK => ?_
  unfold Oper.wp execOp
  simp only [ho, hx, Sem.run_bind, Sem.run_pure, Result.andThen_ok, run_rstr hs he hd hr]
  exact hK _ _ h

/-- A block that the walk has just made. -/
theorem sat.made (hs : sat W H w) {T : TypeId} {l : List Value} : sat W (cel w.heap.size T l :: H) (w.alloc (.cells l.toArray T)) := hs.alloc _
/-- append inside a region that is walked by go_region_held3: what is appended lies in a block of its own. -/
theorem sapp {E : Prop} {K : Act → World → Prop} {s x : Operand} {t e : TypeId} {size bytes m cc g c n : Nat} {xs : List Value} {a0 : Option Addr} {T' : TypeId} {news : List Value} (hs : sat W (own e size (.slice a0 n c) n xs :: cel g T' news :: H) w)
    (hgd : o.guard = none) (ho : o.op = .call { callee := .builtin .append, args := #[s, x], argTypes := #[t, t] })
    (hev : a.eval s = .slice a0 n c) (hx : a.eval x = .slice (some ⟨g, 0, none⟩) m cc) (ht : SlTy P t e size bytes) (hl : news.length = m * size) (h1 : news.all (·.oneCell') = true) (hm : 0 < m)
    (hbytes : (n + m) * bytes ≤ 140737488355328) (h63 : n + m ≤ maxLen)
    (h : ∀ g' c' w', sat W (own e size (.slice (some ⟨g', 0, none⟩) (n + m) c') (n + m) (xs ++ news) :: H) w' → K (a.put o.dst (.slice (some ⟨g', 0, none⟩) (n + m) c')) w') :
    if Region.wanted o (yielded ops a.tmps) = true then Oper.wp P o a w K Q else E := by
  have hw : Region.wanted o (yielded ops a.tmps) = true := by simp [Region.wanted, hgd]
  rw [if_pos hw]
  obtain ⟨v', w', hr, h2⟩ := run_append_sat (P := P) (ty := o.type) (a := ⟨g, 0, none⟩) (m := m) (c := cc) ht hs hl (fun j u hu => by rw [add_none, Nat.zero_add]; exact hs.swap.cel_cell hu) (fun u hu => List.all_eq_true.1 h1 u hu) hbytes h63
  unfold Oper.wp execOp
  simp only [ho, resolve, invoke, builtin, Sem.run_bind, Sem.run_pure, Result.andThen_ok, List.map_toArray, List.map_cons, List.map_nil, hev, hx, hr]
  obtain ⟨g', c', rfl⟩ := h2.own_some (by omega)
  exact h g' c' w' h2.swap.drop

end Go.Mem
