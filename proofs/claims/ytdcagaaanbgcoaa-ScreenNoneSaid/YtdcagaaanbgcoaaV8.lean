/- Law 6: Insert, Delete. -/
import Derived.Test.YtdcagaaanbgcoaaV7
namespace Go.Proofs.Ytdcagaaanbgcoaa
open Go.RowKit Go.Mem Go.Cells
variable {W w : World} {H : List HProp}
/-- A row of which so many cells from a place on are blank. -/
structure IQ (B : PC) (ps : List PC) (c m q i : Nat) (qs : List PC) : Prop where
  len : qs.length = c + m + q
  pre : qs.take c = ps.take c
  mid : (qs.drop c).take i = List.replicate i B
  suf : qs.drop (c + m) = (ps.drop c).take q
theorem IQ.start {B : PC} {ps : List PC} {c m q : Nat} (h : ps.length = c + m + q) : IQ B ps c m q 0 (ps.take (c + m) ++ (ps.drop c).take q) := by
  have e1 : (ps.take (c + m)).length = c + m := by rw [List.length_take]; omega
  have e2 : ((ps.drop c).take q).length = q := by rw [List.length_take, List.length_drop]; omega
  refine ⟨by rw [List.length_append, e1, e2], ?_, rfl, ?_⟩
  · rw [List.take_append_of_le_length (by omega), List.take_take, Nat.min_eq_left (by omega)]
  · rw [List.drop_append_of_le_length (by omega), List.drop_eq_nil_of_le (by omega), List.nil_append]
theorem IQ.next {B : PC} {ps : List PC} {c m q i : Nat} {qs : List PC} (h : IQ B ps c m q i qs) (hi : i < m) : IQ B ps c m q (i + 1) (qs.set (c + i) B) := by
  obtain ⟨h1, h2, h3, h4⟩ := h
  refine ⟨by rw [List.length_set, h1], ?_, ?_, ?_⟩
  · rw [List.take_set, List.set_eq_of_length_le (by rw [List.length_take]; omega), h2]
  · rw [List.drop_set, if_neg (by omega), show c + i - c = i from by omega, List.take_set, List.take_add_one, List.replicate_succ', ← h3]
    have hlt : i < (qs.drop c).length := by rw [List.length_drop]; omega
    rw [List.getElem?_eq_getElem hlt]
    simp only [Option.toList]
    have e : ((qs.drop c).take i).length = i := by rw [List.length_take]; omega
    have := set_app_cons2 ((qs.drop c).take i) (qs.drop c)[i] B []
    rw [e] at this
    exact this
  · rw [List.drop_set, if_pos (by omega), h4]
/-- A row of which so many cells at its end are blank. -/
structure JQ (B : PC) (ps : List PC) (c m q i : Nat) (qs : List PC) : Prop where
  len : qs.length = c + q + m
  pre : qs.take (c + q) = ps.take c ++ ps.drop (c + m)
  mid : (qs.drop (c + q)).take i = List.replicate i B
theorem JQ.start {B : PC} {ps : List PC} {c m q : Nat} (h : ps.length = c + m + q) : JQ B ps c m q 0 (ps.take c ++ ps.drop (c + m) ++ ps.drop (c + q)) := by
  have e1 : (ps.take c ++ ps.drop (c + m)).length = c + q := by rw [List.length_append, List.length_take, List.length_drop]; omega
  refine ⟨by rw [List.length_append, e1, List.length_drop]; omega, ?_, rfl⟩
  rw [List.take_append_of_le_length (by omega), List.take_of_length_le (by omega)]
theorem JQ.next {B : PC} {ps : List PC} {c m q i : Nat} {qs : List PC} (h : JQ B ps c m q i qs) (hi : i < m) : JQ B ps c m q (i + 1) (qs.set (c + q + i) B) := by
  obtain ⟨h1, h2, h3⟩ := h
  refine ⟨by rw [List.length_set, h1], ?_, ?_⟩
  · rw [List.take_set, List.set_eq_of_length_le (by rw [List.length_take]; omega), h2]
  · rw [List.drop_set, if_neg (by omega), show c + q + i - (c + q) = i from by omega, List.take_set, List.take_add_one, List.replicate_succ', ← h3]
    have hlt : i < (qs.drop (c + q)).length := by rw [List.length_drop]; omega
    rw [List.getElem?_eq_getElem hlt]
    simp only [Option.toList]
    have e : ((qs.drop (c + q)).take i).length = i := by rw [List.length_take]; omega
    have := set_app_cons2 ((qs.drop (c + q)).take i) (qs.drop (c + q))[i] B []
    rw [e] at this
    exact this
theorem JQ.fin {B : PC} {ps : List PC} {c m q : Nat} {qs : List PC} (h : JQ B ps c m q m qs) : qs = ps.take c ++ ps.drop (c + m) ++ List.replicate m B := by
  obtain ⟨h1, h2, h3⟩ := h
  have e : qs = qs.take (c + q) ++ qs.drop (c + q) := (List.take_append_drop _ _).symm
  rw [e, h2, ← h3, List.take_of_length_le (l := qs.drop (c + q)) (by rw [List.length_drop]; omega)]
theorem IQ.fin {B : PC} {ps : List PC} {c m q : Nat} {qs : List PC} (h : IQ B ps c m q m qs) : qs = ps.take c ++ List.replicate m B ++ (ps.drop c).take q := by
  obtain ⟨h1, h2, h3, h4⟩ := h
  have e : qs = qs.take c ++ ((qs.drop c).take m ++ qs.drop (c + m)) := by
    rw [← List.drop_drop, List.take_append_drop, List.take_append_drop]
  rw [e, h2, h3, h4, List.append_assoc]
attribute [local irreducible] rowTy oneTy World.setCell World.setCells World.alloc World.drew World.drewN Calls sat cel own blk old wpQuiet wpList cmb cmb1 rwP cls rws partC md
end Go.Proofs.Ytdcagaaanbgcoaa
