import Derived.Test.YtjchjdlapacknaaA9
namespace Go.Proofs.Ytjchjdlapacknaa
open Go.RowKit Go.Mem Go.Maps
variable {W w : World} {H : List HProp}
attribute [local irreducible] World.setCell World.setCells World.alloc World.drew World.drewN Calls sat cel own blk old mp wpQuiet addM

def allNames : Int → Option Value := addM 3 (addM 2 (addM 1 (fun _ => none) names1) names2) names3
theorem names39 (hs : sat W H w) : Calls Try.prog 39 #[] w fun e w' => ∃ b, e = .returned (.map (some b)) ∧ sat W (mp Try.prog 21 i32 b allNames :: H) w' := by
  have hmm := @run_makeMap Try.prog
  go_enter Try.func39, Try.ntmps39
  go_wp2_with (first
    | (go_at_call 41; refine (add41 _ _ _ _ 1 _ names1 (by decide) (hs.b1)).mono ?_; clear hs; rintro e w ⟨rfl, hs⟩; have hs := hs.swap.drop)
    | (go_at_call 41; refine (add41 _ _ _ _ 2 _ names2 (by decide) (hs.b1)).mono ?_; clear hs; rintro e w ⟨rfl, hs⟩; have hs := hs.swap.drop)
    | (go_at_call 41; refine (add41 _ _ _ _ 3 _ names3 (by decide) (hs.b1)).mono ?_; clear hs; rintro e w ⟨rfl, hs⟩; have hs := hs.swap.drop)
    | (refine wrapm Try.prog 21 i32 hs ?_; clear hs; generalize w.heap.size = b; intro w hs)
    | (refine wrap hs ?_; clear hs; generalize w.heap.size = z; intro w hs)
    | (refine wrap hs ?_; clear hs; intro w hs)
    | (refine wrapn hs ?_; clear hs; intro w hs)
    | (refine wrapd hs ?_; clear hs; intro w hs))
  go_ret
  exact ⟨_, rfl, hs⟩
end Go.Proofs.Ytjchjdlapacknaa
