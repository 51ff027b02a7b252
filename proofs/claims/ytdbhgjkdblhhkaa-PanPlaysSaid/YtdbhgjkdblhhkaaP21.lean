import Derived.Test.YtdbhgjkdblhhkaaP20
namespace Go.Proofs.Ytdbhgjkdblhhkaa
open Go.RowKit Go.Mem
attribute [local irreducible] World.setCell World.setCells World.alloc World.drew World.drewN Calls sat cel own blk old wpQuiet wpList
theorem plays_top {E : Type} {enc : TypeId × Value → E} (a0 : Int) (a1 : Option Addr) (n1 c1 : Nat) (a2 : Option Addr) (n2 c2 : Nat) (w : World) (_ : (Lit.int .i64 a0).wf = true) (r1 : Rd enc Try.prog w 39 [.slice a1 n1 c1]) (r2 : Rd enc Try.prog w 40 [.slice a2 n2 c2]) :
    Calls Try.prog 6 #[.int .i64 a0, .slice a1 n1 c1, .slice a2 n2 c2] w fun e w' => e = .returned (.bool true) ∧ Below w.heap.size w w' := by
  obtain ⟨R, hR, _, hs1⟩ := rd_rows r1
  obtain ⟨L, hL, _, hs2⟩ := rd_ops r2
  have k1 := hs1 w []
  have k2 := hs2 w []
  have m1 : n1 ≤ maxLen := Nat.le_trans k1.2.1 k1.2.2.1
  have m2 : n2 ≤ maxLen := Nat.le_trans k2.2.1 k2.2.2.1
  by_cases hx : a0 < 1 ∨ 80 < a0
  · exact (plays_no a0 _ _ hx (sat.start w)).mono fun _ _ ⟨he, hs⟩ => ⟨he, hs.below⟩
  · obtain ⟨wd, rfl⟩ : ∃ wd : Nat, a0 = wd := ⟨a0.toNat, by omega⟩
    by_cases h : n1 < 1 ∨ 5 < n1 ∨ 60 < n2
    · exact (plays_guard (by omega) (by omega) a1 n1 c1 a2 n2 c2 m1 m2 h (sat.start w)).mono fun _ _ ⟨he, hs⟩ => ⟨he, hs.below⟩
    · exact (plays_walk w (by omega) (by omega) R L a1 n1 c1 a2 n2 c2 hR k1 hL k2 (by omega) (by omega) (by omega) (sat.start w)).mono fun _ _ ⟨he, hs⟩ => ⟨he, hs.below⟩
end Go.Proofs.Ytdbhgjkdblhhkaa
