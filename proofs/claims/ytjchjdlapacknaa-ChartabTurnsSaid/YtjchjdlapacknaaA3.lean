import Derived.Test.YtjchjdlapacknaaA2
import Derived.Test.YtjchjdlapacknaaSr
namespace Go.Proofs.Ytjchjdlapacknaa
open Go.RowKit Go.Mem
variable {W w : World} {H : List HProp}
attribute [local irreducible] World.setCell World.setCells World.alloc World.drew World.drewN Calls sat cel own blk old mp wpQuiet

def spans (L : List (Int × Int)) : List Value := L.flatMap fun s => [.int .i32 s.1, .int .i32 s.2]
theorem spans_length : ∀ L : List (Int × Int), (spans L).length = 2 * L.length
  | [] => rfl
  | s :: L => by
    have := spans_length L
    simp only [spans, List.flatMap_cons, List.length_append, List.length_cons, List.length_nil] at this ⊢
    omega

theorem marks26 (hs : sat W H w) : Calls Try.prog 26 #[] w fun e w' => e = .returned (.agg (spans marksL).toArray) ∧ sat W H w' := by
  go_enter Try.func26, Try.ntmps26
  go_wp2_with (first
    | (apply sts hs.b0; exact rfl; exact rfl; exact rfl; exact rfl; kernel_rfl; decide; kernel_rfl; exact rfl; clear hs; intro w hs)
    | (refine wrap hs ?_; clear hs; intro w hs)
    | (refine wrapn hs ?_; clear hs; intro w hs)
    | (refine wrapd hs ?_; clear hs; intro w hs))
  refine ret_cell hs rfl rfl rfl (by kernel_rfl) ?_
  exact ⟨rfl, hs.drop⟩
theorem wides27 (hs : sat W H w) : Calls Try.prog 27 #[] w fun e w' => e = .returned (.agg (spans widesL).toArray) ∧ sat W H w' := by
  go_enter Try.func27, Try.ntmps27
  go_wp2_with (first
    | (apply sts hs.b0; exact rfl; exact rfl; exact rfl; exact rfl; kernel_rfl; decide; kernel_rfl; exact rfl; clear hs; intro w hs)
    | (refine wrap hs ?_; clear hs; intro w hs)
    | (refine wrapn hs ?_; clear hs; intro w hs)
    | (refine wrapd hs ?_; clear hs; intro w hs))
  refine ret_cell hs rfl rfl rfl (by kernel_rfl) ?_
  exact ⟨rfl, hs.drop⟩

end Go.Proofs.Ytjchjdlapacknaa
