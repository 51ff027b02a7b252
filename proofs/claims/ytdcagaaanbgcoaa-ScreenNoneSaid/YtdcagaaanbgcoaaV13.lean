/- Law 6: the document's Insert, Delete. -/
import Derived.Test.YtdcagaaanbgcoaaV12
namespace Go.Proofs.Ytdcagaaanbgcoaa
open Go.RowKit Go.Mem Go.Cells
variable {W w : World} {H : List HProp}
def qI (ps : List PC) (B : PC) (n c m : Nat) (i : Nat) : PC := if i < c then PC.at ps i else if i < c + m then B else PC.at ps (i - m)
def qD (ps : List PC) (B : PC) (n c m : Nat) (i : Nat) : PC := if i < c then PC.at ps i else if i + m < n then PC.at ps (i + m) else B
theorem at_some {ps : List PC} {i : Nat} (h : i < ps.length) : ps[i]? = some (PC.at ps i) := by
  obtain ⟨x, hx⟩ : ∃ x, ps[i]? = some x := ⟨_, List.getElem?_eq_getElem h⟩
  rw [hx, PC.at_get hx]
theorem qI_is {ps : List PC} {B : PC} {n c m : Nat} (hn : ps.length = n) (hm : c + m ≤ n) : fst_ (qI ps B n c m) n = ps.take c ++ List.replicate m B ++ (ps.drop c).take (n - (c + m)) := by
  have hl : (ps.take c ++ List.replicate m B ++ (ps.drop c).take (n - (c + m))).length = n := by
    simp only [List.length_append, List.length_take, List.length_replicate, List.length_drop]; omega
  have := fst_is (f := qI ps B n c m) (L := ps.take c ++ List.replicate m B ++ (ps.drop c).take (n - (c + m))) (fun i hi => by
    rw [hl] at hi
    unfold qI
    by_cases h1 : i < c
    · rw [if_pos h1, List.append_assoc, List.getElem?_append_left (by rw [List.length_take]; omega), List.getElem?_take, if_pos h1, at_some (by omega)]
    · by_cases h2 : i < c + m
      · rw [if_neg h1, if_pos h2, List.getElem?_append_left (by simp only [List.length_append, List.length_take, List.length_replicate]; omega), List.getElem?_append_right (by rw [List.length_take]; omega), List.getElem?_replicate, if_pos (by rw [List.length_take]; omega)]
      · rw [if_neg h1, if_neg h2, List.getElem?_append_right (by simp only [List.length_append, List.length_take, List.length_replicate]; omega), List.getElem?_take, if_pos (by simp only [List.length_append, List.length_take, List.length_replicate]; omega), List.getElem?_drop]
        simp only [List.length_append, List.length_take, List.length_replicate]
        rw [show c + (i - (min c ps.length + m)) = i - m from by omega, at_some (by omega)])
  rw [hl] at this
  exact this
theorem qD_is {ps : List PC} {B : PC} {n c m : Nat} (hn : ps.length = n) (hm : c + m ≤ n) : fst_ (qD ps B n c m) n = ps.take c ++ ps.drop (c + m) ++ List.replicate m B := by
  have hl : (ps.take c ++ ps.drop (c + m) ++ List.replicate m B).length = n := by
    simp only [List.length_append, List.length_take, List.length_replicate, List.length_drop]; omega
  have := fst_is (f := qD ps B n c m) (L := ps.take c ++ ps.drop (c + m) ++ List.replicate m B) (fun i hi => by
    rw [hl] at hi
    unfold qD
    by_cases h1 : i < c
    · rw [if_pos h1, List.append_assoc, List.getElem?_append_left (by rw [List.length_take]; omega), List.getElem?_take, if_pos h1, at_some (by omega)]
    · by_cases h2 : i + m < n
      · rw [if_neg h1, if_pos h2, List.getElem?_append_left (by simp only [List.length_append, List.length_take, List.length_drop]; omega), List.getElem?_append_right (by rw [List.length_take]; omega), List.getElem?_drop]
        simp only [List.length_take]
        rw [show c + m + (i - min c ps.length) = i + m from by omega, at_some (by omega)]
      · rw [if_neg h1, if_neg h2, List.getElem?_append_right (by simp only [List.length_append, List.length_take, List.length_drop]; omega), List.getElem?_replicate, if_pos (by simp only [List.length_append, List.length_take, List.length_drop]; omega)])
  rw [hl] at this
  exact this
attribute [local irreducible] rowTy oneTy World.setCell World.setCells World.alloc World.drew World.drewN Calls sat cel own blk old wpQuiet wpList cmb cmb1 rwP cls rws wi wh fst_
end Go.Proofs.Ytdcagaaanbgcoaa
