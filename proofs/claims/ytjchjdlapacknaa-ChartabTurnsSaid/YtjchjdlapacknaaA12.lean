import Derived.Test.YtjchjdlapacknaaA7
import Derived.Test.YtjchjdlapacknaaA8
import Derived.Test.YtjchjdlapacknaaA11
namespace Go.Proofs.Ytjchjdlapacknaa
open Go.RowKit Go.Mem Go.Maps
variable {W w : World} {H : List HProp}
theorem k97 : width 97 = 1 := by decide
theorem k4e : width 19968 = 2 := by decide
theorem k301 : width 769 = 0 := by decide
theorem k3000 : cls 12288 = 1 := by decide
theorem kd8 : cls 55296 = 0 := by decide
theorem k113 : charset 2 113 = 9472 := by decide
attribute [local irreducible] World.setCell World.setCells World.alloc World.drew World.drewN Calls sat cel own blk old mp wpQuiet addM nameV allNames width cls charset lower upper

set_option maxHeartbeats 1000000 in
theorem known13 (hs : sat W H w) : Calls Try.prog 13 #[] w fun e w' => e = .returned (.bool true) ∧ sat W H w' := by
  have h1 := k97
  have h2 := k4e
  have h3 := k301
  have h4 := k3000
  have h5 := kd8
  have h6 := k113
  have h7 := name_64
  go_enter Try.func13, Try.ntmps13
  go_wp2_with (first
    | (go_at_call 11; refine (may11 _ _).mono ?_; rintro e w' ⟨rfl, rfl⟩)
    | (go_at_call 12; refine (may12 _ _).mono ?_; rintro e w' ⟨rfl, rfl⟩)
    | (go_at_call 14; refine (width14 _ hs).mono ?_; clear hs; rintro e w ⟨rfl, hs⟩)
    | (go_at_call 15; refine (width15 _ _).mono ?_; rintro e w' ⟨rfl, rfl⟩)
    | (go_at_call 16; refine (class16 _ hs).mono ?_; clear hs; rintro e w ⟨rfl, hs⟩)
    | (go_at_call 17; refine (class17 _ _).mono ?_; rintro e w' ⟨rfl, rfl⟩)
    | (go_at_call 18; refine (charset18 _ _ hs).mono ?_; clear hs; rintro e w ⟨rfl, hs⟩)
    | (go_at_call 19; refine (charset19 _ _ hs).mono ?_; clear hs; rintro e w ⟨rfl, hs⟩)
    | (go_at_call 20; refine (name20 _ (by first | exact HR.out | decide) hs).mono ?_; clear hs; rintro e w ⟨rfl, hs⟩)
    | (go_at_call 21; refine (name21 _ _).mono ?_; rintro e w' ⟨rfl, rfl⟩)
    | (go_at_call 22; refine (lower22 _ hs).mono ?_; clear hs; rintro e w ⟨rfl, hs⟩)
    | (go_at_call 23; refine (lower23 _ _).mono ?_; rintro e w' ⟨rfl, rfl⟩)
    | (go_at_call 24; refine (upper24 _ hs).mono ?_; clear hs; rintro e w ⟨rfl, hs⟩)
    | (go_at_call 25; refine (upper25 _ _).mono ?_; rintro e w' ⟨rfl, rfl⟩)
    | (refine wrap hs ?_; clear hs; intro w hs)
    | (refine wrapn hs ?_; clear hs; intro w hs)
    | (refine wrapd hs ?_; clear hs; intro w hs))
  go_ret
  exact ⟨rfl, hs⟩
theorem may_law (r : Int) (hs : sat W H w) : Calls Try.prog 3 #[.int .i32 r] w fun e w' => e = .returned (.bool true) ∧ sat W H w' := by
  go_enter Try.func3, Try.ntmps3
  go_wp2_with (first
    | (go_at_call 11; refine (may11 _ _).mono ?_; rintro e w' ⟨rfl, rfl⟩)
    | (go_at_call 12; refine (may12 _ _).mono ?_; rintro e w' ⟨rfl, rfl⟩)
    | (go_at_call 13; refine (known13 hs).mono ?_; clear hs; rintro e w ⟨rfl, hs⟩)
    | (go_at_call 14; refine (width14 _ hs).mono ?_; clear hs; rintro e w ⟨rfl, hs⟩)
    | (go_at_call 15; refine (width15 _ _).mono ?_; rintro e w' ⟨rfl, rfl⟩)
    | (go_at_call 16; refine (class16 _ hs).mono ?_; clear hs; rintro e w ⟨rfl, hs⟩)
    | (go_at_call 17; refine (class17 _ _).mono ?_; rintro e w' ⟨rfl, rfl⟩)
    | (go_at_call 18; refine (charset18 _ _ hs).mono ?_; clear hs; rintro e w ⟨rfl, hs⟩)
    | (go_at_call 19; refine (charset19 _ _ hs).mono ?_; clear hs; rintro e w ⟨rfl, hs⟩)
    | (go_at_call 20; refine (name20 _ (by first | exact HR.out | decide) hs).mono ?_; clear hs; rintro e w ⟨rfl, hs⟩)
    | (go_at_call 21; refine (name21 _ _).mono ?_; rintro e w' ⟨rfl, rfl⟩)
    | (go_at_call 22; refine (lower22 _ hs).mono ?_; clear hs; rintro e w ⟨rfl, hs⟩)
    | (go_at_call 23; refine (lower23 _ _).mono ?_; rintro e w' ⟨rfl, rfl⟩)
    | (go_at_call 24; refine (upper24 _ hs).mono ?_; clear hs; rintro e w ⟨rfl, hs⟩)
    | (go_at_call 25; refine (upper25 _ _).mono ?_; rintro e w' ⟨rfl, rfl⟩)
    | (refine wrap hs ?_; clear hs; intro w hs)
    | (refine wrapn hs ?_; clear hs; intro w hs)
    | (refine wrapd hs ?_; clear hs; intro w hs))
  go_ret
  exact ⟨rfl, hs⟩
theorem may_top (r : Int) : Calls Try.prog 3 #[.int .i32 r] w fun e w' => e = .returned (.bool true) ∧ Below w.heap.size w w' :=
  (may_law r (sat.start w)).mono fun _ _ ⟨he, hs⟩ => ⟨he, hs.below⟩
theorem width_law (r : Int) (hs : sat W H w) : Calls Try.prog 4 #[.int .i32 r] w fun e w' => e = .returned (.bool true) ∧ sat W H w' := by
  go_enter Try.func4, Try.ntmps4
  go_wp2_with (first
    | (go_at_call 11; refine (may11 _ _).mono ?_; rintro e w' ⟨rfl, rfl⟩)
    | (go_at_call 12; refine (may12 _ _).mono ?_; rintro e w' ⟨rfl, rfl⟩)
    | (go_at_call 13; refine (known13 hs).mono ?_; clear hs; rintro e w ⟨rfl, hs⟩)
    | (go_at_call 14; refine (width14 _ hs).mono ?_; clear hs; rintro e w ⟨rfl, hs⟩)
    | (go_at_call 15; refine (width15 _ _).mono ?_; rintro e w' ⟨rfl, rfl⟩)
    | (go_at_call 16; refine (class16 _ hs).mono ?_; clear hs; rintro e w ⟨rfl, hs⟩)
    | (go_at_call 17; refine (class17 _ _).mono ?_; rintro e w' ⟨rfl, rfl⟩)
    | (go_at_call 18; refine (charset18 _ _ hs).mono ?_; clear hs; rintro e w ⟨rfl, hs⟩)
    | (go_at_call 19; refine (charset19 _ _ hs).mono ?_; clear hs; rintro e w ⟨rfl, hs⟩)
    | (go_at_call 20; refine (name20 _ (by first | exact HR.out | decide) hs).mono ?_; clear hs; rintro e w ⟨rfl, hs⟩)
    | (go_at_call 21; refine (name21 _ _).mono ?_; rintro e w' ⟨rfl, rfl⟩)
    | (go_at_call 22; refine (lower22 _ hs).mono ?_; clear hs; rintro e w ⟨rfl, hs⟩)
    | (go_at_call 23; refine (lower23 _ _).mono ?_; rintro e w' ⟨rfl, rfl⟩)
    | (go_at_call 24; refine (upper24 _ hs).mono ?_; clear hs; rintro e w ⟨rfl, hs⟩)
    | (go_at_call 25; refine (upper25 _ _).mono ?_; rintro e w' ⟨rfl, rfl⟩)
    | (refine wrap hs ?_; clear hs; intro w hs)
    | (refine wrapn hs ?_; clear hs; intro w hs)
    | (refine wrapd hs ?_; clear hs; intro w hs))
  go_ret
  exact ⟨rfl, hs⟩
theorem width_top (r : Int) : Calls Try.prog 4 #[.int .i32 r] w fun e w' => e = .returned (.bool true) ∧ Below w.heap.size w w' :=
  (width_law r (sat.start w)).mono fun _ _ ⟨he, hs⟩ => ⟨he, hs.below⟩
theorem class_law (r : Int) (hs : sat W H w) : Calls Try.prog 5 #[.int .i32 r] w fun e w' => e = .returned (.bool true) ∧ sat W H w' := by
  go_enter Try.func5, Try.ntmps5
  go_wp2_with (first
    | (go_at_call 11; refine (may11 _ _).mono ?_; rintro e w' ⟨rfl, rfl⟩)
    | (go_at_call 12; refine (may12 _ _).mono ?_; rintro e w' ⟨rfl, rfl⟩)
    | (go_at_call 13; refine (known13 hs).mono ?_; clear hs; rintro e w ⟨rfl, hs⟩)
    | (go_at_call 14; refine (width14 _ hs).mono ?_; clear hs; rintro e w ⟨rfl, hs⟩)
    | (go_at_call 15; refine (width15 _ _).mono ?_; rintro e w' ⟨rfl, rfl⟩)
    | (go_at_call 16; refine (class16 _ hs).mono ?_; clear hs; rintro e w ⟨rfl, hs⟩)
    | (go_at_call 17; refine (class17 _ _).mono ?_; rintro e w' ⟨rfl, rfl⟩)
    | (go_at_call 18; refine (charset18 _ _ hs).mono ?_; clear hs; rintro e w ⟨rfl, hs⟩)
    | (go_at_call 19; refine (charset19 _ _ hs).mono ?_; clear hs; rintro e w ⟨rfl, hs⟩)
    | (go_at_call 20; refine (name20 _ (by first | exact HR.out | decide) hs).mono ?_; clear hs; rintro e w ⟨rfl, hs⟩)
    | (go_at_call 21; refine (name21 _ _).mono ?_; rintro e w' ⟨rfl, rfl⟩)
    | (go_at_call 22; refine (lower22 _ hs).mono ?_; clear hs; rintro e w ⟨rfl, hs⟩)
    | (go_at_call 23; refine (lower23 _ _).mono ?_; rintro e w' ⟨rfl, rfl⟩)
    | (go_at_call 24; refine (upper24 _ hs).mono ?_; clear hs; rintro e w ⟨rfl, hs⟩)
    | (go_at_call 25; refine (upper25 _ _).mono ?_; rintro e w' ⟨rfl, rfl⟩)
    | (refine wrap hs ?_; clear hs; intro w hs)
    | (refine wrapn hs ?_; clear hs; intro w hs)
    | (refine wrapd hs ?_; clear hs; intro w hs))
  go_ret
  exact ⟨rfl, hs⟩
theorem class_top (r : Int) : Calls Try.prog 5 #[.int .i32 r] w fun e w' => e = .returned (.bool true) ∧ Below w.heap.size w w' :=
  (class_law r (sat.start w)).mono fun _ _ ⟨he, hs⟩ => ⟨he, hs.below⟩
theorem charset_law (s r : Int) (hs : sat W H w) : Calls Try.prog 6 #[.int .u8 s, .int .i32 r] w fun e w' => e = .returned (.bool true) ∧ sat W H w' := by
  go_enter Try.func6, Try.ntmps6
  go_wp2_with (first
    | (go_at_call 11; refine (may11 _ _).mono ?_; rintro e w' ⟨rfl, rfl⟩)
    | (go_at_call 12; refine (may12 _ _).mono ?_; rintro e w' ⟨rfl, rfl⟩)
    | (go_at_call 13; refine (known13 hs).mono ?_; clear hs; rintro e w ⟨rfl, hs⟩)
    | (go_at_call 14; refine (width14 _ hs).mono ?_; clear hs; rintro e w ⟨rfl, hs⟩)
    | (go_at_call 15; refine (width15 _ _).mono ?_; rintro e w' ⟨rfl, rfl⟩)
    | (go_at_call 16; refine (class16 _ hs).mono ?_; clear hs; rintro e w ⟨rfl, hs⟩)
    | (go_at_call 17; refine (class17 _ _).mono ?_; rintro e w' ⟨rfl, rfl⟩)
    | (go_at_call 18; refine (charset18 _ _ hs).mono ?_; clear hs; rintro e w ⟨rfl, hs⟩)
    | (go_at_call 19; refine (charset19 _ _ hs).mono ?_; clear hs; rintro e w ⟨rfl, hs⟩)
    | (go_at_call 20; refine (name20 _ (by first | exact HR.out | decide) hs).mono ?_; clear hs; rintro e w ⟨rfl, hs⟩)
    | (go_at_call 21; refine (name21 _ _).mono ?_; rintro e w' ⟨rfl, rfl⟩)
    | (go_at_call 22; refine (lower22 _ hs).mono ?_; clear hs; rintro e w ⟨rfl, hs⟩)
    | (go_at_call 23; refine (lower23 _ _).mono ?_; rintro e w' ⟨rfl, rfl⟩)
    | (go_at_call 24; refine (upper24 _ hs).mono ?_; clear hs; rintro e w ⟨rfl, hs⟩)
    | (go_at_call 25; refine (upper25 _ _).mono ?_; rintro e w' ⟨rfl, rfl⟩)
    | (refine wrap hs ?_; clear hs; intro w hs)
    | (refine wrapn hs ?_; clear hs; intro w hs)
    | (refine wrapd hs ?_; clear hs; intro w hs))
  go_ret
  exact ⟨rfl, hs⟩
theorem charset_top (s r : Int) : Calls Try.prog 6 #[.int .u8 s, .int .i32 r] w fun e w' => e = .returned (.bool true) ∧ Below w.heap.size w w' :=
  (charset_law s r (sat.start w)).mono fun _ _ ⟨he, hs⟩ => ⟨he, hs.below⟩
theorem name_law (r : Int) (hr : (Lit.int .i32 r).wf = true) (hs : sat W H w) : Calls Try.prog 7 #[.int .i32 r] w fun e w' => e = .returned (.bool true) ∧ sat W H w' := by
  have HR := Lib.hid hr
  clear hr
  go_enter Try.func7, Try.ntmps7
  go_wp2_with (first
    | (go_at_call 11; refine (may11 _ _).mono ?_; rintro e w' ⟨rfl, rfl⟩)
    | (go_at_call 12; refine (may12 _ _).mono ?_; rintro e w' ⟨rfl, rfl⟩)
    | (go_at_call 13; refine (known13 hs).mono ?_; clear hs; rintro e w ⟨rfl, hs⟩)
    | (go_at_call 14; refine (width14 _ hs).mono ?_; clear hs; rintro e w ⟨rfl, hs⟩)
    | (go_at_call 15; refine (width15 _ _).mono ?_; rintro e w' ⟨rfl, rfl⟩)
    | (go_at_call 16; refine (class16 _ hs).mono ?_; clear hs; rintro e w ⟨rfl, hs⟩)
    | (go_at_call 17; refine (class17 _ _).mono ?_; rintro e w' ⟨rfl, rfl⟩)
    | (go_at_call 18; refine (charset18 _ _ hs).mono ?_; clear hs; rintro e w ⟨rfl, hs⟩)
    | (go_at_call 19; refine (charset19 _ _ hs).mono ?_; clear hs; rintro e w ⟨rfl, hs⟩)
    | (go_at_call 20; refine (name20 _ (by first | exact HR.out | decide) hs).mono ?_; clear hs; rintro e w ⟨rfl, hs⟩)
    | (go_at_call 21; refine (name21 _ _).mono ?_; rintro e w' ⟨rfl, rfl⟩)
    | (go_at_call 22; refine (lower22 _ hs).mono ?_; clear hs; rintro e w ⟨rfl, hs⟩)
    | (go_at_call 23; refine (lower23 _ _).mono ?_; rintro e w' ⟨rfl, rfl⟩)
    | (go_at_call 24; refine (upper24 _ hs).mono ?_; clear hs; rintro e w ⟨rfl, hs⟩)
    | (go_at_call 25; refine (upper25 _ _).mono ?_; rintro e w' ⟨rfl, rfl⟩)
    | (refine wrap hs ?_; clear hs; intro w hs)
    | (refine wrapn hs ?_; clear hs; intro w hs)
    | (refine wrapd hs ?_; clear hs; intro w hs))
  go_ret
  exact ⟨rfl, hs⟩
theorem name_top (r : Int) (hr : (Lit.int .i32 r).wf = true) : Calls Try.prog 7 #[.int .i32 r] w fun e w' => e = .returned (.bool true) ∧ Below w.heap.size w w' :=
  (name_law r hr (sat.start w)).mono fun _ _ ⟨he, hs⟩ => ⟨he, hs.below⟩
theorem case_law (r : Int) (hs : sat W H w) : Calls Try.prog 9 #[.int .i32 r] w fun e w' => e = .returned (.bool true) ∧ sat W H w' := by
  go_enter Try.func9, Try.ntmps9
  go_wp2_with (first
    | (go_at_call 11; refine (may11 _ _).mono ?_; rintro e w' ⟨rfl, rfl⟩)
    | (go_at_call 12; refine (may12 _ _).mono ?_; rintro e w' ⟨rfl, rfl⟩)
    | (go_at_call 13; refine (known13 hs).mono ?_; clear hs; rintro e w ⟨rfl, hs⟩)
    | (go_at_call 14; refine (width14 _ hs).mono ?_; clear hs; rintro e w ⟨rfl, hs⟩)
    | (go_at_call 15; refine (width15 _ _).mono ?_; rintro e w' ⟨rfl, rfl⟩)
    | (go_at_call 16; refine (class16 _ hs).mono ?_; clear hs; rintro e w ⟨rfl, hs⟩)
    | (go_at_call 17; refine (class17 _ _).mono ?_; rintro e w' ⟨rfl, rfl⟩)
    | (go_at_call 18; refine (charset18 _ _ hs).mono ?_; clear hs; rintro e w ⟨rfl, hs⟩)
    | (go_at_call 19; refine (charset19 _ _ hs).mono ?_; clear hs; rintro e w ⟨rfl, hs⟩)
    | (go_at_call 20; refine (name20 _ (by first | exact HR.out | decide) hs).mono ?_; clear hs; rintro e w ⟨rfl, hs⟩)
    | (go_at_call 21; refine (name21 _ _).mono ?_; rintro e w' ⟨rfl, rfl⟩)
    | (go_at_call 22; refine (lower22 _ hs).mono ?_; clear hs; rintro e w ⟨rfl, hs⟩)
    | (go_at_call 23; refine (lower23 _ _).mono ?_; rintro e w' ⟨rfl, rfl⟩)
    | (go_at_call 24; refine (upper24 _ hs).mono ?_; clear hs; rintro e w ⟨rfl, hs⟩)
    | (go_at_call 25; refine (upper25 _ _).mono ?_; rintro e w' ⟨rfl, rfl⟩)
    | (refine wrap hs ?_; clear hs; intro w hs)
    | (refine wrapn hs ?_; clear hs; intro w hs)
    | (refine wrapd hs ?_; clear hs; intro w hs))
  go_ret
  exact ⟨rfl, hs⟩
theorem case_top (r : Int) : Calls Try.prog 9 #[.int .i32 r] w fun e w' => e = .returned (.bool true) ∧ Below w.heap.size w w' :=
  (case_law r (sat.start w)).mono fun _ _ ⟨he, hs⟩ => ⟨he, hs.below⟩
end Go.Proofs.Ytjchjdlapacknaa
