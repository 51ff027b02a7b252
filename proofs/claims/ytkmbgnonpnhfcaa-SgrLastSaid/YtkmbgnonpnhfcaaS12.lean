/- SgrLast's plain law: of the pairs that set a flag and take it away. -/
import Derived.Test.YtkmbgnonpnhfcaaS1
namespace Go.Sgr
theorem pair_ok {a : At} (h : wf a) (x y : Int) (m n : Nat) (hx : x ≠ 0) (hy : y ≠ 0) (h1 : on x = m) (h2 : off y = n) (h3 : on y = 0) (m0 : m ≠ 0) (n0 : n ≠ 0) (hm : m < 256) (hn : n < 256) (e1 : m &&& (65535 - n) = 0) (e2 : (65535 - n) &&& m = 0)
    (k1 : ¬(x = 38 ∨ x = 48)) (k2 : ¬(y = 38 ∨ y = 48)) : apply a [x, y] = apply a [y] ∧ apply (apply a [y]) [x] ≠ apply a [y] := by
  have := on_off h x y m n hx hy h1 h2 h3 m0 n0 hm hn e1 e2
  rw [apply_pair _ _ _ k1 k2, apply_one _ _ k2, apply_one _ _ k1]
  exact this
def pairs : List (Int × Int) := [(1, 22), (2, 22), (3, 23), (4, 24), (5, 25), (7, 27), (8, 28), (9, 29)]
theorem pairs_ok {a : At} (h : wf a) : ∀ p ∈ pairs, apply a [p.1, p.2] = apply a [p.2] ∧ apply (apply a [p.2]) [p.1] ≠ apply a [p.2] := by
  intro p hp
  simp only [pairs, List.mem_cons, List.not_mem_nil, or_false] at hp
  rcases hp with rfl | rfl | rfl | rfl | rfl | rfl | rfl | rfl
  · exact pair_ok h 1 22 1 3 (by decide) (by decide) rfl rfl rfl (by decide) (by decide) (by decide) (by decide) (by decide) (by decide) (by decide) (by decide)
  · exact pair_ok h 2 22 2 3 (by decide) (by decide) rfl rfl rfl (by decide) (by decide) (by decide) (by decide) (by decide) (by decide) (by decide) (by decide)
  · exact pair_ok h 3 23 4 4 (by decide) (by decide) rfl rfl rfl (by decide) (by decide) (by decide) (by decide) (by decide) (by decide) (by decide) (by decide)
  · exact pair_ok h 4 24 8 8 (by decide) (by decide) rfl rfl rfl (by decide) (by decide) (by decide) (by decide) (by decide) (by decide) (by decide) (by decide)
  · exact pair_ok h 5 25 16 16 (by decide) (by decide) rfl rfl rfl (by decide) (by decide) (by decide) (by decide) (by decide) (by decide) (by decide) (by decide)
  · exact pair_ok h 7 27 32 32 (by decide) (by decide) rfl rfl rfl (by decide) (by decide) (by decide) (by decide) (by decide) (by decide) (by decide) (by decide)
  · exact pair_ok h 8 28 64 64 (by decide) (by decide) rfl rfl rfl (by decide) (by decide) (by decide) (by decide) (by decide) (by decide) (by decide) (by decide)
  · exact pair_ok h 9 29 128 128 (by decide) (by decide) rfl rfl rfl (by decide) (by decide) (by decide) (by decide) (by decide) (by decide) (by decide) (by decide)
/-- A number twice is as once. -/
theorem twice {a : At} (h : wf a) (n : Int) (k : ¬(n = 38 ∨ n = 48)) : apply a [n, n] = apply a [n] := by
  rw [apply_pair _ _ _ k k, apply_one _ _ k, plain_twice h]
end Go.Sgr
