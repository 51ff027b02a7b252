/- Modes as eight Bools; a mode's number; bits: as plain functions. -/
import Derived.WalkKit
namespace Go.Modes
structure M where
  a0 : Bool
  a1 : Bool
  a2 : Bool
  a3 : Bool
  a4 : Bool
  a5 : Bool
  a6 : Bool
  a7 : Bool
  deriving DecidableEq
def M.list (m : M) : List Bool := [m.a0, m.a1, m.a2, m.a3, m.a4, m.a5, m.a6, m.a7]
def M.get (m : M) (i : Nat) : Bool := m.list.getD i false
def M.set (m : M) (i : Nat) (b : Bool) : M :=
  if i = 0 then { m with a0 := b } else if i = 1 then { m with a1 := b } else if i = 2 then { m with a2 := b } else if i = 3 then { m with a3 := b }
  else if i = 4 then { m with a4 := b } else if i = 5 then { m with a5 := b } else if i = 6 then { m with a6 := b } else { m with a7 := b }
def dflt : M := ⟨false, false, false, false, true, true, false, false⟩
/-- Where the mode of a number stands. -/
def place (p : Bool) (n : Int) : Option Nat :=
  if p = false then (if n = 4 then some 0 else if n = 20 then some 1 else none)
  else if n = 1 then some 2 else if n = 6 then some 3 else if n = 7 then some 4 else if n = 25 then some 5 else if n = 47 then some 6 else if n = 1047 then some 6 else if n = 1049 then some 6 else if n = 2004 then some 7 else none
theorem place_lt {p : Bool} {n : Int} {i : Nat} (h : place p n = some i) : i < 8 := by
  unfold place at h
  repeat' split at h
  all_goals first | (cases h; decide) | cases h
def get (m : M) (p : Bool) (n : Int) : Bool × Bool := match place p n with | none => (false, false) | some i => (m.get i, true)
def put (m : M) (p : Bool) (n : Int) (on : Bool) : M × Bool := match place p n with | none => (m, false) | some i => (m.set i on, true)
def b2n (b : Bool) : Nat := if b then 1 else 0
def bits (m : M) : Nat := b2n m.a0 + 2 * b2n m.a1 + 4 * b2n m.a2 + 8 * b2n m.a3 + 16 * b2n m.a4 + 32 * b2n m.a5 + 64 * b2n m.a6 + 128 * b2n m.a7
def ofBits (n : Nat) : M := ⟨n % 2 == 1, n / 2 % 2 == 1, n / 4 % 2 == 1, n / 8 % 2 == 1, n / 16 % 2 == 1, n / 32 % 2 == 1, n / 64 % 2 == 1, n / 128 == 1⟩
theorem bits_lt (m : M) : bits m < 256 := by
  obtain ⟨a0, a1, a2, a3, a4, a5, a6, a7⟩ := m
  unfold bits b2n
  repeat' split
  all_goals decide
theorem allM {Q : M → Prop} (h : ∀ a0 a1 a2 a3 a4 a5 a6 a7, Q ⟨a0, a1, a2, a3, a4, a5, a6, a7⟩) (m : M) : Q m := h ..
theorem of_bits : ∀ m : M, ofBits (bits m) = m := allM (by decide +kernel)
theorem bits_of : ∀ n < 256, bits (ofBits n) = n := by decide +kernel
theorem bit_get : ∀ m : M, ∀ i < 8, (bits m / 2 ^ i % 2 == 1) = m.get i := allM (by decide +kernel)
theorem bit_set (on : Bool) : ∀ m : M, ∀ i < 8, ofBits (if m.get i && !on then bits m - 2 ^ i else if !m.get i && on then bits m + 2 ^ i else bits m) = m.set i on := by
  cases on
  · exact allM (by decide +kernel)
  · exact allM (by decide +kernel)
theorem get_set : ∀ m : M, ∀ i < 8, ∀ k < 8, ∀ b : Bool, (m.set i b).get k = if k = i then b else m.get k := allM (by decide +kernel)
theorem set_set : ∀ m : M, ∀ i < 8, ∀ b c : Bool, (m.set i b).set i c = m.set i c := allM (by decide +kernel)
theorem set_get : ∀ m : M, ∀ i < 8, m.set i (m.get i) = m := allM (by decide +kernel)
end Go.Modes
