/- Law 20: words, cell by cell. -/
import Derived.Test.YtcheljogpffabaaW17
namespace Go.Words
section
variable {bl : List Bool}
theorem WsOk.tail {i : Nat} {x : Nat × Nat} {t : List (Nat × Nat)} (h : WsOk bl i (x :: t)) : WsOk bl x.2 t := by
  obtain ⟨h1, h2, h3, h4⟩ := h
  obtain ⟨h5, h6⟩ := List.pairwise_cons.1 h2
  refine ⟨fun y hy => ?_, h6, fun y hy => h3 y (List.mem_cons_of_mem _ hy), fun j hj hb => ?_⟩
  · have := h5 y hy
    have := h1 y (List.mem_cons_of_mem _ hy)
    exact ⟨by omega, this.2.1, this.2.2⟩
  · have hx := h1 x List.mem_cons_self
    obtain ⟨y, hy, hy1, hy2⟩ := h4 j (by omega) hb
    rcases List.mem_cons.1 hy with rfl | hy
    · omega
    · exact ⟨y, hy, hy1, hy2⟩
theorem ws_head_le {i : Nat} {x y : Nat × Nat} {t u : List (Nat × Nat)} (h : WsOk bl i (x :: t)) (h' : WsOk bl i (y :: u)) : y.1 ≤ x.1 := by
  have hx := h.each x List.mem_cons_self
  obtain ⟨z, hz, hz1, hz2⟩ := h'.all x.1 hx.1 (h.dark x List.mem_cons_self x.1 (Nat.le_refl _) hx.2.1)
  rcases List.mem_cons.1 hz with rfl | hz
  · exact hz1
  · have := (List.pairwise_cons.1 h'.apart).1 z hz
    have := (h'.each y List.mem_cons_self).2.1
    omega
theorem ws_head_end {i : Nat} {x y : Nat × Nat} {t u : List (Nat × Nat)} (h : WsOk bl i (x :: t)) (h' : WsOk bl i (y :: u)) (e : x.1 = y.1) : y.2 ≤ x.2 := by
  rcases Nat.lt_or_ge x.2 y.2 with h2 | h2
  · have hx := h.each x List.mem_cons_self
    obtain ⟨z, hz, hz1, hz2⟩ := h.all x.2 (by omega) (h'.dark y List.mem_cons_self x.2 (by omega) h2)
    rcases List.mem_cons.1 hz with rfl | hz
    · omega
    · have := (List.pairwise_cons.1 h.apart).1 z hz
      omega
  · exact h2
theorem ws_one : ∀ (ws1 ws2 : List (Nat × Nat)) (i : Nat), WsOk bl i ws1 → WsOk bl i ws2 → ws1 = ws2
  | [], [], _, _, _ => rfl
  | [], y :: u, i, h, h' => by
    have hy := h'.each y List.mem_cons_self
    obtain ⟨z, hz, _⟩ := h.all y.1 hy.1 (h'.dark y List.mem_cons_self y.1 (Nat.le_refl _) hy.2.1)
    cases hz
  | x :: t, [], i, h, h' => by
    have hx := h.each x List.mem_cons_self
    obtain ⟨z, hz, _⟩ := h'.all x.1 hx.1 (h.dark x List.mem_cons_self x.1 (Nat.le_refl _) hx.2.1)
    cases hz
  | x :: t, y :: u, i, h, h' => by
    have e1 : x.1 = y.1 := Nat.le_antisymm (ws_head_le h' h) (ws_head_le h h')
    have e2 : x.2 = y.2 := Nat.le_antisymm (ws_head_end h' h e1.symm) (ws_head_end h h' e1)
    have e : x = y := Prod.ext e1 e2
    subst e
    rw [ws_one t u x.2 h.tail h'.tail]
theorem words_eq {ws : List (Nat × Nat)} (h : WsOk bl 0 ws) : ws = words bl := ws_one _ _ 0 h (ws_ok bl)
variable {out : List (Nat × Nat)}
theorem ws_blank (h : WsOk bl 0 out) : WsOk (bl ++ [true]) 0 out := by
  obtain ⟨h1, h2, h3, h4⟩ := h
  refine ⟨fun x hx => ?_, h2, fun x hx j hj1 hj2 => ?_, fun j hj hb => ?_⟩
  · obtain ⟨a, b, c⟩ := h1 x hx
    exact ⟨a, b, by simp; omega⟩
  · have := (h1 x hx).2.2
    rw [List.getElem?_append_left (by omega)]
    exact h3 x hx j hj1 hj2
  · rw [List.getElem?_append] at hb
    split at hb
    · exact h4 j hj hb
    · have := List.mem_of_getElem? hb
      simp at this
theorem ws_last (h : WsOk bl 0 out) {k : Nat} (hl : bl.length = k + 1) (hb : bl[k]? = some false) : ∃ init f, out = init ++ [(f, k + 1)] := by
  obtain ⟨x, hx, h1, h2⟩ := h.all k (Nat.zero_le _) hb
  have hx3 := (h.each x hx).2.2
  obtain ⟨i, hi⟩ := List.mem_iff_getElem?.1 hx
  have hs := ws_split hi
  have hd : out.drop (i + 1) = [] := by
    cases hc : out.drop (i + 1) with
    | nil => rfl
    | cons y u =>
      have hy : y ∈ out.drop (i + 1) := by rw [hc]; exact List.mem_cons_self
      have := ws_behind h hi y hy
      have := h.each y (List.mem_of_mem_drop hy)
      omega
  rw [hd] at hs
  refine ⟨out.take i, x.1, ?_⟩
  have e : x = (x.1, k + 1) := Prod.ext rfl (by show x.2 = k + 1; omega)
  rw [← e]
  exact hs
theorem ws_on {init : List (Nat × Nat)} {f k : Nat} (h : WsOk bl 0 (init ++ [(f, k)])) (hl : bl.length = k) : WsOk (bl ++ [false]) 0 (init ++ [(f, k + 1)]) := by
  obtain ⟨h1, h2, h3, h4⟩ := h
  obtain ⟨p1, _, p3⟩ := List.pairwise_append.1 h2
  have hf := h1 (f, k) (by simp)
  simp only at hf
  refine ⟨fun x hx => ?_, List.pairwise_append.2 ⟨p1, List.pairwise_singleton _ _, fun x hx y hy => ?_⟩, fun x hx j hj1 hj2 => ?_, fun j hj hb => ?_⟩
  · rcases List.mem_append.1 hx with hx | hx
    · obtain ⟨a, b, c⟩ := h1 x (by simp [hx])
      exact ⟨a, b, by simp; omega⟩
    · rw [List.mem_singleton.1 hx]
      exact ⟨Nat.zero_le _, by show f < k + 1; omega, by simp [hl]⟩
  · rw [List.mem_singleton.1 hy]
    exact p3 x hx (f, k) (by simp)
  · rcases List.mem_append.1 hx with hx | hx
    · have := (h1 x (by simp [hx])).2.2
      rw [List.getElem?_append_left (by omega)]
      exact h3 x (by simp [hx]) j hj1 hj2
    · rw [List.mem_singleton.1 hx] at hj1 hj2
      simp only at hj1 hj2
      by_cases e : j = k
      · subst e
        rw [List.getElem?_append_right (by omega), hl, Nat.sub_self]; rfl
      · rw [List.getElem?_append_left (by omega)]
        exact h3 (f, k) (by simp) j hj1 (by show j < k; omega)
  · rw [List.getElem?_append] at hb
    split at hb
    · obtain ⟨x, hx, a, b⟩ := h4 j hj hb
      rcases List.mem_append.1 hx with hx | hx
      · exact ⟨x, by simp [hx], a, b⟩
      · rw [List.mem_singleton.1 hx] at a b
        simp only at a b
        exact ⟨(f, k + 1), by simp, a, by show j < k + 1; omega⟩
    · have hj2 := (List.getElem?_eq_some_iff.1 hb).1
      simp at hj2
      exact ⟨(f, k + 1), by simp, by show f ≤ j; omega, by show j < k + 1; omega⟩
theorem ws_new {k : Nat} (h : WsOk bl 0 out) (hl : bl.length = k) (hp : ∀ j, k = j + 1 → bl[j]? ≠ some false) : WsOk (bl ++ [false]) 0 (out ++ [(k, k + 1)]) := by
  obtain ⟨h1, h2, h3, h4⟩ := h
  refine ⟨fun x hx => ?_, List.pairwise_append.2 ⟨h2, List.pairwise_singleton _ _, fun x hx y hy => ?_⟩, fun x hx j hj1 hj2 => ?_, fun j hj hb => ?_⟩
  · rcases List.mem_append.1 hx with hx | hx
    · obtain ⟨a, b, c⟩ := h1 x hx
      exact ⟨a, b, by simp; omega⟩
    · rw [List.mem_singleton.1 hx]
      exact ⟨Nat.zero_le _, Nat.lt_succ_self _, by simp [hl]⟩
  · rw [List.mem_singleton.1 hy]
    show x.2 < k
    obtain ⟨_, b, c⟩ := h1 x hx
    rcases Nat.lt_or_ge x.2 k with h5 | h5
    · exact h5
    · have e : x.2 = k := by omega
      exact absurd (h3 x hx (k - 1) (by omega) (by omega)) (hp (k - 1) (by omega))
  · rcases List.mem_append.1 hx with hx | hx
    · have := (h1 x hx).2.2
      rw [List.getElem?_append_left (by omega)]
      exact h3 x hx j hj1 hj2
    · rw [List.mem_singleton.1 hx] at hj1 hj2
      simp only at hj1 hj2
      obtain rfl : j = k := by omega
      rw [List.getElem?_append_right (by omega), hl, Nat.sub_self]; rfl
  · rw [List.getElem?_append] at hb
    split at hb
    · obtain ⟨x, hx, a⟩ := h4 j hj hb
      exact ⟨x, by simp [hx], a⟩
    · have hj2 := (List.getElem?_eq_some_iff.1 hb).1
      simp at hj2
      exact ⟨(k, k + 1), by simp, by show k ≤ j; omega, by show j < k + 1; omega⟩
end
end Go.Words
