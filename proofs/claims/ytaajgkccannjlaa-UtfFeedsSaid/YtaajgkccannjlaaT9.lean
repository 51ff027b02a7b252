import Derived.Test.YtaajgkccannjlaaT7
import Derived.Test.YtaajgkccannjlaaT8
namespace Go.Proofs.Ytaajgkccannjlaa
open Go.RowKit Go.Mem Go.Utf
variable {W w : World} {H : List HProp}
theorem d1 : dec [97, 195, 164] = [97, 228] := by decide +kernel
theorem d2 : dec [240, 144, 97] = [65533, 97] := by decide +kernel
theorem d3 : dec [237, 160, 128] = [65533, 65533, 65533] := by decide +kernel
theorem e1 : enc 228 = [195, 164] := by decide +kernel
/-- Numbers as a string. -/
def sI (l : List Int) : ByteArray := bs (l.map Int.toNat)
theorem bytes_nums {l : List Int} (hb : ∀ x ∈ l, 0 ≤ x) : bytes l = nums .u8 (l.map Int.toNat) := by
  unfold nums
  rw [List.map_map]
  apply List.map_congr_left
  intro x hx
  show Value.int .u8 x = Value.int .u8 (x.toNat : Int)
  rw [Int.toNat_of_nonneg (hb x hx)]
theorem cvI {P : Program} {o : Oper} {ops : Array Oper} {rest : List Oper} {a : Act} {Q : Exit → Act → World → Prop} {src dst e : TypeId} {x : Operand} {v : Value} (l : List Int) (hb : ∀ x ∈ l, 0 ≤ x) (ho : o.op = .convert src dst x) (hw : Region.wanted o (yielded ops a.tmps) = true) (hx : a.eval x = v)
    (hs : P.underlying src = some (.slice e)) (he : P.underlying e = some (.int .u8)) (hd : P.underlying dst = some .string) (hr : Reads w v (bytes l))
    (h : wpList P ops Q rest (a.put o.dst (.string (sI l))) w) : wpList P ops Q (o :: rest) a w :=
  cvs ho hw hx hs he hd (bytes_nums hb ▸ hr) h
theorem s2 : ((sI [195, 164]).toList == [195, 164]) = true := by decide +kernel
attribute [local irreducible] World.setCell World.alloc World.drew World.drewN Calls sat cel own blk old wpQuiet first size begins more SK val head value say BR EB run feed dec enc sI
theorem same_s (a b : Value) (xs : List Int) (ha : Reads w a (xs.map (Value.int .i32))) (hb : Reads w b (xs.map (Value.int .i32))) (hs : sat W H w) : Calls Try.prog 10 #[a, b] w fun e w' => e = .returned (.bool true) ∧ sat W H w' :=
  (same_self a b xs w ha hb).mono (by rintro e w' ⟨rfl, n, rfl⟩; exact ⟨rfl, hs.drewN n⟩)
theorem decode_t (l out : List Int) (h : dec l = out) (ad : Option Addr) (n cp : Nat) (hl : SK .u8 W H ad n cp l) (hb : ∀ x ∈ l, 0 ≤ x ∧ x < 256) (hn : n ≤ 100000) (hs : sat W H w) : Calls Try.prog 11 #[.slice ad n cp] w (BR W H out) := h ▸ decode11 ad n cp l hl hb hn hs
theorem rdecode_t (l out : List Int) (h : dec l = out) (ad : Option Addr) (n cp : Nat) (hl : SK .u8 W H ad n cp l) (hb : ∀ x ∈ l, 0 ≤ x ∧ x < 256) (hn : n ≤ 100000) (hs : sat W H w) : Calls Try.prog 12 #[.slice ad n cp] w (BR W H out) := h ▸ decode12 ad n cp l hl hb hn hs
theorem decode_c (l out : List Int) (h : dec l = out) (g n : Nat) (hn : n = l.length) (h3 : n ≤ 4) (hb : ∀ x ∈ l, 0 ≤ x ∧ x < 256) (hs : sat W (cel g 5 (bytes l) :: H) w) : Calls Try.prog 11 #[.slice (some ⟨g, 0, none⟩) n n] w (BR W (cel g 5 (bytes l) :: H) out) :=
  decode_t l out h _ _ _ (SK.of_cel hn (by unfold maxLen; omega)) hb (by omega) hs
theorem encode_t (r : Int) (out : List Int) (h : enc r = out) (h0 : -2147483648 ≤ r) (h1 : r < 2147483648) (hs : sat W H w) : Calls Try.prog 13 #[.int .i32 r] w (EB W H out) := h ▸ encode13 r h0 h1 hs
set_option maxHeartbeats 4000000 in
theorem known9 (hs : sat W H w) : Calls Try.prog 9 #[] w fun e w' => e = .returned (.bool true) ∧ sat W H w' := by
  have q1 := s2
  go_enter Try.func9, Try.ntmps9
  go_wp2_with (first
    | (go_at_call 11; refine (decode_c [97, 195, 164] _ d1 _ 3 rfl (by decide) (by decide) hs).mono ?_; clear hs; rintro e w hb; obtain ⟨a1, c1, rfl, hs⟩ := hb.elim; clear hb)
    | (go_at_call 11; refine (decode_c [240, 144, 97] _ d2 _ 3 rfl (by decide) (by decide) hs).mono ?_; clear hs; rintro e w hb; obtain ⟨a1, c1, rfl, hs⟩ := hb.elim; clear hb)
    | (go_at_call 11; refine (decode_c [237, 160, 128] _ d3 _ 3 rfl (by decide) (by decide) hs).mono ?_; clear hs; rintro e w hb; obtain ⟨a1, c1, rfl, hs⟩ := hb.elim; clear hb)
    | (go_at_call 10; refine (same_s _ _ [97, 228] (hs.b1.own_reads.1) (hs.b0.cel_reads (by decide)) hs).mono ?_; clear hs; rintro e w ⟨rfl, hs⟩; replace hs := hs.drop.drop.drop)
    | (go_at_call 10; refine (same_s _ _ [65533, 97] (hs.b1.own_reads.1) (hs.b0.cel_reads (by decide)) hs).mono ?_; clear hs; rintro e w ⟨rfl, hs⟩; replace hs := hs.drop.drop.drop)
    | (go_at_call 10; refine (same_s _ _ [65533, 65533, 65533] (hs.b1.own_reads.1) (hs.b0.cel_reads (by decide)) hs).mono ?_; clear hs; rintro e w ⟨rfl, hs⟩; replace hs := hs.drop.drop.drop)
    | (go_at_call 13; refine (encode_t 228 _ e1 (by decide) (by decide) hs).mono ?_; clear hs; rintro e w hb; obtain ⟨a1, c1, rfl, hs⟩ := hb.elim; clear hb)
    | (apply cvI [195, 164] (by decide); exact rfl; exact rfl; exact rfl; exact Try.underlying22; exact Try.underlying5; exact Try.underlying9; exact hs.own_reads.1)
    | (refine wrap hs ?_; clear hs; intro w hs)
    | (refine wrapn hs ?_; clear hs; intro w hs)
    | (refine wrapd hs ?_; clear hs; intro w hs))
  go_ret
  exact ⟨rfl, hs.drop⟩
end Go.Proofs.Ytaajgkccannjlaa
