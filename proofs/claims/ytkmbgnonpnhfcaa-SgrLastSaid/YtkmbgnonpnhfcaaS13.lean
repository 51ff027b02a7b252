/- The map literal of SgrLast: its law of keys, and its pairs as values. -/
import Derived.Test.YtkmbgnonpnhfcaaS12
import Derived.Test.YtkmbgnonpnhfcaaProg
import Derived.Test.YtkmbgnonpnhfcaaSg
import Derived.Maps.Keyed
namespace Go.Proofs.Ytkmbgnonpnhfcaa
open Go.RowKit Go.Mem Go.Maps Go.Sgr
theorem klaw : Keyed Try.prog 3 := int_keyed Try.underlying3
theorem key_int (x : Int) (h : (Lit.int .i64 x).wf = true) : keyOf Try.prog 3 (.int .i64 x) = some (.int .i64 x) := by
  simp [keyOf, Try.underlying3, mapKey, h]
/-- The keys of the literal's beginning are keys. -/
theorem pairs_keys {l : List (Int × Int)} (h : ∀ p ∈ l, (Lit.int .i64 p.1).wf = true) : ∀ p ∈ l.map (fun p => ((Value.int .i64 p.1, Value.int .i64 p.2) : Value × Value)), ∃ lt, keyOf Try.prog 3 p.1 = some lt := by
  intro p hp
  obtain ⟨q, hq, rfl⟩ := List.mem_map.1 hp
  exact ⟨_, key_int q.1 (h q hq)⟩
abbrev pairV (p : Int × Int) : Value × Value := (.int .i64 p.1, .int .i64 p.2)
theorem pairV_get {l : List (Int × Int)} {i : Nat} {x y : Value} (h : (l.map pairV)[i]? = some (x, y)) : ∃ p ∈ l, x = .int .i64 p.1 ∧ y = .int .i64 p.2 := by
  rw [List.getElem?_map] at h
  cases hp : l[i]? with
  | none => rw [hp] at h; cases h
  | some p =>
    rw [hp] at h
    cases h
    exact ⟨p, List.mem_of_getElem? hp, rfl, rfl⟩
end Go.Proofs.Ytkmbgnonpnhfcaa
