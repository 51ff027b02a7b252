/- Law 6: the same rows. -/
import Derived.Test.YtdcagaaanbgcoaaV18
namespace Go.Proofs.Ytdcagaaanbgcoaa
open Go.RowKit Go.Mem Go.Cells
variable {W w : World} {H : List HProp}
attribute [local irreducible] rowTy oneTy World.setCell World.setCells World.alloc World.drew World.drewN Calls sat cel own blk old wpQuiet wpList cmb cmb1 rwP cls rws wi wh fst_ World.rangeAt
theorem cmb_reads {ps : List PC} {x : PC} (hx : x ∈ ps) (hs : sat W (cmb ps :: H) w) : Reads w (pcS x) (runes x.c.comb) := by
  obtain ⟨i, hi⟩ := List.mem_iff_getElem?.1 hx
  have h := cmb_at hi hs
  unfold cmb1 at h
  exact h.own_reads.1
theorem runes_set (cb : List Int) (i : Nat) (y : Int) : (runes cb).set i (.int .i32 y) = runes (cb.set i y) := by unfold runes; rw [List.map_set]
theorem RC.mk {ps : List PC} {a : Option Addr} {n p : Nat} (hs : sat W (own 110 6 (.slice a n p) n (rws ps).flatten :: cmb ps :: H) w) : RC W (own 110 6 (.slice a n p) n (rws ps).flatten :: cmb ps :: H) a n p (ps.map (·.c)) :=
  ⟨ps, rfl, SR.of_own hs (by decide) (rws6 ps), fun x hx w' h => cmb_reads hx h.drop⟩
theorem RC.mono {H' : List HProp} {a : Option Addr} {n p : Nat} {l : List C} (h : RC W H a n p l) (f : ∀ w', sat W H' w' → sat W H w') : RC W H' a n p l := by
  obtain ⟨ps, e, S, R⟩ := h
  exact ⟨ps, e, S.mono f, fun x hx w' h => R x hx w' (f w' h)⟩
theorem same15_yes {a1 a2 : Option Addr} {n1 n2 c1 c2 : Nat} {l : List C} (h1000 : n1 ≤ 1000) (h4 : ∀ c ∈ l, c.comb.length ≤ 1000) (R1 : RC W H a1 n1 c1 l) (R2 : RC W H a2 n2 c2 l) (hs : sat W H w) : Calls Try.prog 61 #[.slice a1 n1 c1, .slice a2 n2 c2] w fun e w' => e = .returned (.bool true) ∧ sat W H w' := by
  have h := same15 h1000 h4 R1 R2 hs
  rw [decide_eq_true (rfl : l = l)] at h
  exact h
end Go.Proofs.Ytdcagaaanbgcoaa
