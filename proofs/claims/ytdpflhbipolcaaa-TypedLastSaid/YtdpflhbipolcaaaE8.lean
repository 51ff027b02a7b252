import Derived.Test.YtdpflhbipolcaaaE7
import Derived.Below
namespace Go.Proofs.Ytdpflhbipolcaaa
open Go.RowKit Go.Mem Go.Typed
variable {W w : World} {H : List HProp}
attribute [local irreducible] World.setCell World.setCells World.alloc World.drew World.drewN Calls sat cel own blk old wpQuiet wpList tyL ringC TY
variable {g : Nat → One} {f n : Nat} {life now : Int} {b z : Nat}
theorem new_no' (life : Int) (h1 : life < 1 ∨ 1000 < life) (w : World) : Calls Try.prog 7 #[.int .i64 life] w fun e w' => e = .returned (.tuple #[.pointer none, .int .i64 2]) ∧ w' = w := by
  by_cases h0 : life < 1
  · clear h1
    go_enter Try.func7, Try.ntmps7
    go_wp2
    exact end_ret rfl (results_tmp2 rfl _ _ _) ⟨rfl, rfl⟩
  · have h2 : 1000 < life := by omega
    have h3 : ¬ life < 1 := h0
    clear h1
    go_enter Try.func7, Try.ntmps7
    go_wp2
    exact end_ret rfl (results_tmp2 rfl _ _ _) ⟨rfl, rfl⟩
theorem known6 (hs : sat W H w) : Calls Try.prog 6 #[] w fun e w' => e = .returned (.bool true) ∧ sat W H w' := by
  have p1 := Lib.hid (show push [] ⟨97, 0 + 5⟩ = [⟨97, 5⟩] from rfl)
  have p2 := Lib.hid (show push [⟨97, 5⟩] ⟨98, 3 + 5⟩ = [⟨97, 5⟩, ⟨98, 8⟩] from rfl)
  have p3 := Lib.hid (show take [⟨97, 5⟩, ⟨98, 8⟩] 98 4 = ([⟨97, 5⟩, ⟨98, 8⟩], false) from rfl)
  have p4 := Lib.hid (show take [⟨97, 5⟩, ⟨98, 8⟩] 97 4 = ([⟨98, 8⟩], true) from rfl)
  have p5 := Lib.hid (show sel (max 7 4) [⟨98, 8⟩] = [98] from rfl)
  have p6 := Lib.hid (show sel (max 8 4) [⟨98, 8⟩] = [] from rfl)
  have p7 := Lib.hid (show take [⟨98, 8⟩] 98 7 = ([], true) from rfl)
  go_enter Try.func6, Try.ntmps6
  go_wp2_with (first | (go_at_call 7; refine (new7 5 (by decide) (by decide) hs).mono ?_; clear hs; rintro e w ⟨b, rfl, hs⟩) | (go_at_call 7; refine (new_no' 0 (by decide) _).mono ?_; rintro e w ⟨rfl, rfl⟩) | (go_at_call 9; refine (type_t 97 0 (by decide) (by decide) (by decide) (by decide) (show tick 0 0 = 0 from rfl) p1.out hs).mono ?_; clear hs; rintro e w ⟨rfl, hs⟩) | (go_at_call 9; refine (type_t 98 3 (by decide) (by decide) (by decide) (by decide) (show tick 0 3 = 3 from rfl) p2.out hs).mono ?_; clear hs; rintro e w ⟨rfl, hs⟩) | (go_at_call 8; refine (take_t 98 4 (by decide) (show tick 3 4 = 4 from rfl) p3.out hs).mono ?_; clear hs; rintro e w ⟨rfl, hs⟩) | (go_at_call 8; refine (take_t 97 4 (by decide) (show tick 4 4 = 4 from rfl) p4.out hs).mono ?_; clear hs; rintro e w ⟨rfl, hs⟩) | (go_at_call 10; refine (waits_t 7 (by decide) p5.out hs).mono ?_; clear hs; rintro e w ⟨a5, c5, rfl, hs⟩) | (go_at_call 10; refine (waits_t 8 (by decide) p6.out hs).mono ?_; clear hs; rintro e w ⟨a5, c5, rfl, hs⟩) | (go_at_call 8; refine (take_t 98 7 (by decide) (show tick 4 7 = 7 from rfl) p7.out hs).mono ?_; clear hs; rintro e w ⟨rfl, hs⟩))
  go_ret
  exact ⟨rfl, hs.sat.drop.drop⟩
end Go.Proofs.Ytdpflhbipolcaaa
