/- Law 18: Int64.Add; Put's parts. -/
import Derived.Test.YtinfgebdcjaabaaQ10
import Derived.Laws.LoneSync
namespace Go.Proofs.Ytinfgebdcjaabaa
open Go.RowKit Go.Mem Go.Queue
variable {W w : World} {H : List HProp}
attribute [local irreducible] World.setCell World.setCells World.alloc World.drew World.drewN Calls sat cel own blk old wpQuiet wpList qu uts gn World.rangeAt tru leastUpto bestUpto si Utf8.decode wc wst wordsOf
variable {b : Nat} {q : Qu}
theorem add31 {T : TypeId} {l : List Value} {i : Nat} {c : Int} (hc : l[i]? = some (.int .i64 c)) (h0 : 0 ≤ c) (h1 : c ≤ 1000000) (hs : sat W (cel b T l :: H) w) : Calls Try.prog 31 #[.pointer (some ⟨b, i, none⟩), .int .i64 1] w fun e w' => e = .returned (.int .i64 (c + 1)) ∧ sat W (cel b T (l.set i (.int .i64 (c + 1))) :: H) w' := by
  have hf : w.frozen? ⟨b, i, none⟩ = false := by
    have h : sat W (blk b (.cells l.toArray T (0, 0)) :: H) w := by unfold cel at hs; exact hs
    exact h.fr i
  have hadd := run_call_add (P := Try.prog) Try.func40 (by kernel_rfl) (by kernel_rfl) (by kernel_rfl) .i64 (by kernel_rfl) (y := 1) (s := c + 1) (hs.cel_cell hc) hf (by simp [go_sem, wrap64, IntKind.wrap_i64]; omega)
  go_enter Try.func31, Try.ntmps31
  go_wp2
  go_ret
  exact ⟨rfl, hs.cel_set _⟩
end Go.Proofs.Ytinfgebdcjaabaa
