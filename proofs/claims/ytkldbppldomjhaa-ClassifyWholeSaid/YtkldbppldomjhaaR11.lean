/- Law 16: Feed, taken; End, New. -/
import Derived.Test.YtkldbppldomjhaaR10
namespace Go.Proofs.Ytkldbppldomjhaa
open Go.RowKit Go.Mem Go.Typed Go.Front Go.Classify
variable {W w : World} {H : List HProp}
theorem tick_ok {c : Cl} {t : Int} (ok : c.ok) : (tickc c t).1.ok ∧ (tickc c t).2.length ≤ 1 := by
  obtain ⟨k1, k2, k3, k4, k5, k6, k7, k8, k9, k10, k11⟩ := ok
  have h1 : 0 ≤ tick c.now t ∧ tick c.now t ≤ 1099511627776 := by unfold tick; omega
  unfold tickc
  split
  · unfold endr
    refine ⟨⟨k1, k2, k3, k4, h1.1, h1.2, k7, k8, k9, k10, Nat.zero_le _⟩, ?_⟩
    simp only
    split <;> simp
  · exact ⟨⟨k1, k2, k3, k4, h1.1, h1.2, k7, k8, k9, k10, k11⟩, Nat.zero_le _⟩
attribute [local irreducible] World.setCell World.setCells World.alloc World.drew World.drewN Calls sat cel own blk old wpQuiet wpList tyL ringC rns tyP clP rnl
variable {b z : Nat} {c : Cl}
theorem feed7 {t : Int} {e : Ev} (ok : c.ok) (hwf : wfE e) (hi0 : 0 ≤ e.index) (hi1 : e.index < 9223372036854775807) {c3 : Cl} {L : List Run} (he : feedc c e t = (c3, L)) (hs : sat W (clP b c :: H) w) :
    Calls Try.prog 7 #[.pointer (some ⟨b, 0, none⟩), evV e, .int .i64 t] w fun e' w' => ∃ a cp, e' = .returned (.slice a L.length cp) ∧ sat W (rns (.slice a L.length cp) L :: clP b c3 :: H) w' := by
  obtain ⟨ok1, hl1⟩ := tick_ok (t := t) ok
  obtain ⟨c1, l1, ht⟩ : ∃ c1 l1, tickc c t = (c1, l1) := ⟨_, _, rfl⟩
  rw [ht] at ok1 hl1
  simp only at ok1 hl1
  unfold feedc at he
  rw [ht] at he
  simp only at he
  obtain ⟨c4, m, hm⟩ : ∃ c4 m, feedb c1 e = (c4, m) := ⟨_, _, rfl⟩
  rw [hm] at he
  simp only at he
  cases he
  unfold feedb kindOf took tk at hm
  by_cases h1 : e.kind = 1
  · simp only [h1, if_true] at hm
    obtain ⟨q', echo, hq⟩ : ∃ q' echo, take c1.q e.r (tick c1.tnow c1.now) = (q', echo) := ⟨_, _, rfl⟩
    rw [hq] at hm
    obtain ⟨f', k, hf⟩ : ∃ f' k, feed c1.fr e echo = (f', k) := ⟨_, _, rfl⟩
    simp only at hm
    rw [hf] at hm
    have hk : k ≠ 0 := by
      have h2 : k = (feed c1.fr e echo).2 := by rw [hf]
      rw [h2]
      unfold Front.feed
      rw [if_pos h1]
      simp only
      split
      · decide
      · split <;> decide
    simp only [ne_eq, hk, not_false_eq_true, if_true] at hm
    have h := feed7_print (b := b) (H := H) ok ht ok1 hl1 hwf hi0 hi1 h1 hq hf hk hs
    rw [hm] at h
    exact h
  · simp only [h1, if_false] at hm
    obtain ⟨f', k, hf⟩ : ∃ f' k, feed c1.fr e false = (f', k) := ⟨_, _, rfl⟩
    rw [hf] at hm
    simp only at hm
    by_cases hk : k = 0
    · subst hk
      simp only [ne_eq, not_true_eq_false, if_false] at hm
      by_cases h3 : e.kind = 3
      · cases hw : e.wrap with
        | false =>
          rw [if_pos (.inl ⟨h3, hw⟩)] at hm
          exact feed7_line ok ht ok1 hl1 hwf hi0 hi1 h3 hw hf hm hs
        | true =>
          rw [if_neg (by unfold ends; simp [h3, hw])] at hm
          exact feed7_wrapped ok ht ok1 hl1 hwf hi0 hi1 h3 hw hf hm hs
      · by_cases h4 : e.kind = 4
        · rw [if_pos (.inr (.inl h4))] at hm
          exact feed7_other ok ht ok1 hl1 hwf hi0 hi1 h4 hf hm hs
        · by_cases h5 : e.kind = 5
          · rw [if_pos (.inr (.inr h5))] at hm
            exact feed7_reset ok ht ok1 hl1 hwf hi0 hi1 h5 hf hm hs
          · rw [if_neg (by unfold ends; omega)] at hm
            exact feed7_none ok ht ok1 hl1 hwf hi0 hi1 ⟨h1, h3, h4, h5⟩ hf hm hs
    · simp only [ne_eq, hk, not_false_eq_true, if_true] at hm
      have h2 : e.kind = 2 := by
        have h2 : k = (feed c1.fr e false).2 := by rw [hf]
        rw [h2] at hk
        unfold Front.feed at hk
        rw [if_neg h1] at hk
        by_cases h2 : e.kind = 2
        · exact h2
        · rw [if_neg h2] at hk
          exfalso
          apply hk
          split
          · rfl
          · split
            · rfl
            · split <;> rfl
      exact feed7_join ok ht ok1 hl1 hwf hi0 hi1 h2 hf hk hm hs
end Go.Proofs.Ytkldbppldomjhaa
