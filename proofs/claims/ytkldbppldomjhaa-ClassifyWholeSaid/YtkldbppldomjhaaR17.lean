/- Law 16: ClassifyTyped, in plain Lean: a print put to the run that goes on, or to the next one. -/
import Derived.Test.YtkldbppldomjhaaR16
namespace Go.Proofs.Ytkldbppldomjhaa
open Go.Typed Go.Front Go.Classify
def ru (k f : Int) (xs : List Int) : Run := if xs = [] then zr else ⟨k, f, f + xs.length, xs⟩
theorem tick_is {a t : Int} (h : a ≤ t) (h1 : t ≤ 1099511627776) : tick a t = t := by unfold tick; omega
theorem tickc_is {c : Cl} {t : Int} (hq : c.quiet = 10) (hn : c.now ≤ t) (h1 : t ≤ 1099511627776) (hx : c.run = zr ∨ c.last = t) : tickc c t = ({ c with now := t }, []) := by
  unfold tickc
  rw [tick_is hn h1, hq]
  by_cases h : (10 : Int) ≤ t - c.last
  · rw [if_pos h]
    rcases hx with hx | hx
    · unfold endr
      obtain ⟨q, li, tn, fr, qu, run, la, nw⟩ := c
      simp only at hx
      subst hx
      rfl
    · omega
  · rw [if_neg h]
theorem took_is {c : Cl} {e : Ev} {t : Int} (he : e.kind = 1) (hn : c.now = t) (htn : c.tnow ≤ t) (h1 : t ≤ 1099511627776) :
    took c e = { c with q := (take c.q e.r t).1, tnow := t, fr := (feed c.fr e (take c.q e.r t).2).1 } ∧ kindOf c e = (feed c.fr e (take c.q e.r t).2).2 := by
  unfold took kindOf tk
  rw [if_pos he, if_pos he, hn, tick_is htn h1]
  exact ⟨rfl, rfl⟩
theorem step_on {c : Cl} {e : Ev} {t k f : Int} {xs : List Int} (hrun : c.run = ru k f xs) (hk : k ≠ 0) (hx : xs = [] ∨ c.last = t) (hq : c.quiet = 10) (hn : c.now ≤ t) (h1 : t ≤ 1099511627776) (htn : c.tnow ≤ t)
    (he : e.kind = 1) (hi : e.index = f + xs.length) (hlen : xs.length < 199) (hkind : (feed c.fr e (take c.q e.r t).2).2 = k) :
    feedc c e t = ({ c with now := t, q := (take c.q e.r t).1, tnow := t, fr := (feed c.fr e (take c.q e.r t).2).1, run := ru k f (xs ++ [e.r]), last := t }, []) := by
  unfold feedc
  rw [tickc_is hq hn h1 (by rcases hx with rfl | h; exact .inl hrun; exact .inr h)]
  obtain ⟨k1, k2⟩ := took_is (c := { c with now := t }) he rfl htn h1
  unfold feedb
  rw [k1, k2]
  simp only [hkind]
  rw [if_pos hk]
  unfold putc open_ more full endr ru
  by_cases h0 : xs = []
  · subst h0
    simp [hrun, ru, zr, hi]
  · have h2 : ¬ 200 ≤ xs.length + 1 := by omega
    simp [hrun, ru, h0, hi, h2]
    omega
theorem step_next {c : Cl} {e : Ev} {t k k' f f' : Int} {xs : List Int} (hrun : c.run = ru k' f' xs) (hxs : xs ≠ []) (hk : k ≠ 0) (hkk : k' ≠ k) (hx : c.last = t) (hq : c.quiet = 10) (hn : c.now ≤ t) (h1 : t ≤ 1099511627776) (htn : c.tnow ≤ t)
    (he : e.kind = 1) (hi : e.index = f) (hkind : (feed c.fr e (take c.q e.r t).2).2 = k) :
    feedc c e t = ({ c with now := t, q := (take c.q e.r t).1, tnow := t, fr := (feed c.fr e (take c.q e.r t).2).1, run := ru k f [e.r], last := t }, [ru k' f' xs]) := by
  unfold feedc
  rw [tickc_is hq hn h1 (.inr hx)]
  obtain ⟨k1, k2⟩ := took_is (c := { c with now := t }) he rfl htn h1
  unfold feedb
  rw [k1, k2]
  simp only [hkind]
  rw [if_pos hk]
  unfold putc open_ more full endr ru
  simp [hrun, ru, hxs, zr, hi, hkk]
end Go.Proofs.Ytkldbppldomjhaa
