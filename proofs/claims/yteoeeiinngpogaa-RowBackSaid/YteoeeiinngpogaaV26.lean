/- Law 6: rows without wide cells. -/
import Derived.Test.YteoeeiinngpogaaV22
namespace Go.Proofs.Yteoeeiinngpogaa
open Go.RowKit Go.Mem Go.Cells
variable {W w : World} {H : List HProp}
def nw (l : List C) : Prop := ∀ c ∈ l, c.w = 0
theorem nw_app {l m : List C} (h : nw l) (k : nw m) : nw (l ++ m) := fun c hc => (List.mem_append.1 hc).elim (h c) (k c)
theorem nw_rep (n : Nat) (a : At) : nw (List.replicate n (bC a)) := fun c hc => by rw [(List.mem_replicate.1 hc).2]; rfl
theorem nw_take {l : List C} (h : nw l) (k : Nat) : nw (l.take k) := fun c hc => h c (List.mem_of_mem_take hc)
theorem nw_drop {l : List C} (h : nw l) (k : Nat) : nw (l.drop k) := fun c hc => h c (List.mem_of_mem_drop hc)
theorem nw_set {l : List C} (h : nw l) (k : Nat) {x : C} (hx : x.w = 0) : nw (l.set k x) := fun c hc => by
  rcases List.mem_or_eq_of_mem_set hc with h1 | h1
  · exact h c h1
  · rw [h1]; exact hx
theorem nw_part {l : List C} (h : nw l) (k : Int) : partC l k = l := by
  unfold partC
  split
  · split
    · rename_i c d h1 h2
      rw [if_neg (by rw [h d (List.mem_of_getElem? h2)]; decide)]
    · rfl
  · rfl
theorem nw_md {l : List C} (h : nw l) : ∀ p, md p l = l := by
  induction l with
  | nil => intro p; rfl
  | cons c l ih =>
    intro p
    have hc : c.w = 0 := h c (by simp)
    rw [md]
    simp only [hc]
    rw [if_neg (by omega), ih (fun d hd => h d (by simp [hd]))]
theorem nw_put {l : List C} (h : nw l) (k x : Int) (a : At) : nw (putG l k x false a).1 := by
  unfold putG
  simp only [nw_part h, Bool.false_eq_true, if_false]
  split
  · exact h
  · exact nw_set h _ rfl
theorem nw_join {l : List C} (h : nw l) (k x : Int) : nw (joinG l k x).1 := by
  unfold joinG
  split
  · exact h
  · split
    · exact h
    · simp only
      split
      · exact h
      · rename_i d hd
        split
        · exact h
        · exact nw_set h _ (h d (List.mem_of_getElem? hd))
theorem nw_erase {l : List C} (h : nw l) (f t : Int) (a : At) : nw (eraseG l f t a) := by
  unfold eraseG
  simp only [nw_part h]
  split
  · exact h
  · exact nw_app (nw_app (nw_take h _) (nw_rep _ _)) (nw_drop h _)
theorem ins_nw {l : List C} (h : nw l) (k m : Int) (a : At) {c j : Nat} (hc : (min (max k 0) (l.length : Int)).toNat = c) (hj : (min (max m 0) ((l.length : Int) - (c : Int))).toNat = j) : insG l k m a = l.take c ++ List.replicate j (bC (grC a)) ++ (l.drop c).take (l.length - (c + j)) ∧ nw (insG l k m a) := by
  have e : insG l k m a = l.take c ++ List.replicate j (bC (grC a)) ++ (l.drop c).take (l.length - (c + j)) := by
    unfold insG
    simp only [hc, hj, nw_part h]
    split
    · rename_i h0
      rw [h0, List.replicate_zero, List.append_nil, List.take_of_length_le (l := l.drop c) (by rw [List.length_drop]; omega), List.take_append_drop]
    · rw [nw_md (nw_app (nw_app (nw_take h _) (nw_rep _ _)) (nw_take (nw_drop h _) _))]
  exact ⟨e, by rw [e]; exact nw_app (nw_app (nw_take h _) (nw_rep _ _)) (nw_take (nw_drop h _) _)⟩
theorem nw_ins {l : List C} (h : nw l) (k m : Int) (a : At) : nw (insG l k m a) := (ins_nw h k m a rfl rfl).2
theorem del_nw {l : List C} (h : nw l) (k m : Int) (a : At) {c j : Nat} (hc : (min (max k 0) (l.length : Int)).toNat = c) (hj : (min (max m 0) ((l.length : Int) - (c : Int))).toNat = j) : delG l k m a = l.take c ++ l.drop (c + j) ++ List.replicate j (bC (grC a)) := by
  unfold delG
  simp only [hc, hj, nw_part h]
  split
  · rename_i h0
    rw [h0, List.replicate_zero, List.append_nil, Nat.add_zero, List.take_append_drop]
  · rfl
theorem nw_del {l : List C} (h : nw l) (k m : Int) (a : At) : nw (delG l k m a) := by
  rw [del_nw h k m a rfl rfl]
  exact nw_app (nw_app (nw_take h _) (nw_drop h _)) (nw_rep _ _)
theorem nw_do {l : List C} (h : nw l) (o : Op) (k6 : ¬ o.kind = 6) (hw : o.wide = false) : nw (doG l o).1 := by
  unfold doG
  rw [hw]
  split
  · exact nw_put h _ _ _
  split
  · exact nw_join h _ _
  split
  · exact nw_erase h _ _ _
  split
  · exact nw_ins h _ _ _
  split
  · exact nw_del h _ _ _
  exact h
/-- Inserted, and deleted there again. -/
theorem ins_del {l : List C} (h : nw l) (k m : Int) (a : At) {c j : Nat} (hc : (min (max k 0) (l.length : Int)).toNat = c) (hj : (min (max m 0) ((l.length : Int) - (c : Int))).toNat = j) : delG (insG l k m a) k m a = l.take (l.length - j) ++ List.replicate j (bC (grC a)) := by
  obtain ⟨e, hn⟩ := ins_nw h k m a hc hj
  have hcl : c + j ≤ l.length := by omega
  have hlen : (insG l k m a).length = l.length := by
    rw [e]
    simp only [List.length_append, List.length_take, List.length_replicate, List.length_drop]
    omega
  rw [del_nw (c := c) (j := j) hn k m a (by rw [hlen]; exact hc) (by rw [hlen]; exact hj)]
  congr 1
  have e1 : (l.take c).length = c := by rw [List.length_take]; omega
  have e2 : (insG l k m a).take c = l.take c := by
    rw [e, List.append_assoc, List.take_append_of_le_length (by omega), List.take_of_length_le (by omega)]
  have e3 : (insG l k m a).drop (c + j) = (l.drop c).take (l.length - (c + j)) := by
    rw [e, List.drop_append]
    have e4 : (l.take c ++ List.replicate j (bC (grC a))).length = c + j := by rw [List.length_append, e1, List.length_replicate]
    rw [List.drop_of_length_le (by omega), e4, Nat.sub_self, List.drop_zero, List.nil_append]
  rw [e2, e3, show l.length - j = c + (l.length - (c + j)) from by omega, List.take_add]
theorem RC.take {a : Option Addr} {n c k : Nat} {l : List C} (h : RC W H a n c l) (hk : k ≤ n) : RC W H a k c (l.take k) := by
  obtain ⟨ps, e, S, R⟩ := h
  have hS := S.take hk (by have := S.len.2.1; omega) S.len.2.2
  rw [rws_take] at hS
  exact ⟨ps.take k, by rw [List.map_take, e], hS, fun x hx w' h => R x (List.mem_of_mem_take hx) w' h⟩
theorem reads_none {w : World} : Reads w (.slice none 0 0) (runes []) := (sat.own_reads (T := 21) (W := w) (H := []) ((sat.start w).drop.own_nil 21 1)).1
end Go.Proofs.Yteoeeiinngpogaa
