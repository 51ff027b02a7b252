/- Law 04: where a rune leads from everywhere; Feed, State, New. -/
import Derived.Test.YtojgdpccjlgmiaaK8
namespace Go.Proofs.Ytojgdpccjlgmiaa
open Go.RowKit Go.Mem Go.Parse
variable {W w : World} {H : List HProp}
attribute [local irreducible] World.setCell World.setCells World.alloc World.drew World.drewN Calls sat cel own blk old wpQuiet wpList pm values digit next acs
variable {b : Nat} {st pr : Int} {L : PL} {I T : List Int} {ov : Bool} {p : Ps} {H : List HProp}
/-- What 'anywhere' answers. -/
def Any (W : World) (H : List HProp) (b : Nat) (p : Ps) (r : Int) (e : Ending) (w : World) : Prop :=
  match lead r with
  | some s => ∃ a c, e = .returned (.tuple #[.slice a ((leave p s).2 ++ (if s = 0 ∧ r ≠ 156 then exec r else [])).length c, .bool true]) ∧ sat W (acs (.slice a ((leave p s).2 ++ (if s = 0 ∧ r ≠ 156 then exec r else [])).length c) ((leave p s).2 ++ (if s = 0 ∧ r ≠ 156 then exec r else [])) :: prs b (leave p s).1 :: H) w
  | none => e = .returned (.tuple #[.slice none 0 0, .bool false]) ∧ sat W (prs b p :: H) w
theorem any_lead {r : Int} {s : Nat} (h : lead r = some s) (hs : s ≠ 0 ∨ r = 156) {a : Option Addr} {c : Nat} (h2 : sat W (acs (.slice a (leave p s).2.length c) (leave p s).2 :: prs b (leave p s).1 :: H) w) : Any W H b p r (.returned (.tuple #[.slice a (leave p s).2.length c, .bool true])) w := by
  unfold Any
  rw [h]
  dsimp only
  rw [if_neg (by omega), List.append_nil]
  exact ⟨_, _, rfl, h2⟩
theorem any_exec {r : Int} (h : lead r = some 0) (hr : r ≠ 156) {a : Option Addr} {c : Nat} (h2 : sat W (acs (.slice a ((leave p 0).2.length + 1) c) ((leave p 0).2 ++ exec r) :: prs b (leave p 0).1 :: H) w) : Any W H b p r (.returned (.tuple #[.slice a ((leave p 0).2.length + 1) c, .bool true])) w := by
  unfold Any
  rw [h]
  dsimp only
  rw [if_pos ⟨rfl, hr⟩, List.length_append]
  exact ⟨_, _, rfl, h2⟩
theorem any_none {r : Int} (h : lead r = none) (h2 : sat W (prs b p :: H) w) : Any W H b p r (.returned (.tuple #[.slice none 0 0, .bool false])) w := by
  unfold Any
  rw [h]
  exact ⟨rfl, h2⟩
attribute [local irreducible] Any
theorem anywhere14 {r : Int} (ok : p.ok) (hs : sat W (prs b p :: H) w) : Calls Try.prog 14 #[.pointer (some ⟨b, 0, none⟩), .int .i32 r] w (Any W H b p r) := by
  have HOK := Lib.hid ok
  have HLE : Hid ((leave p 0).2.length ≤ 1) := Lib.hid (leave_acts ok 0).2
  clear ok
  by_cases k27 : r = 27
  · subst k27
    go_enter Try.func14, Try.ntmps14
    go_wp2_with (first | (go_at_call 25; refine (leave25 (s := 1) HOK.out hs).mono ?_; clear hs; rintro e w ⟨a, c, rfl, hs⟩) | (go_at_call 26; refine (in26 hs).mono ?_; clear hs; rintro e w ⟨rfl, hs⟩) | ((with_reducible refine isl ?_); first | ((with_reducible refine wrap hs ?_); clear hs; intro w hs) | ((with_reducible refine wrapn hs ?_); clear hs; intro w hs) | ((with_reducible refine wrapd hs ?_); clear hs; intro w hs)))
    refine end_ret rfl (results_tmp2 rfl _ _ _) ?_
    exact any_lead (r := 27) (s := 1) rfl (by decide) hs
  by_cases k156 : r = 156
  · subst k156
    go_enter Try.func14, Try.ntmps14
    go_wp2_with (first | (go_at_call 25; refine (leave25 (s := 0) HOK.out hs).mono ?_; clear hs; rintro e w ⟨a, c, rfl, hs⟩) | (go_at_call 26; refine (in26 hs).mono ?_; clear hs; rintro e w ⟨rfl, hs⟩) | ((with_reducible refine isl ?_); first | ((with_reducible refine wrap hs ?_); clear hs; intro w hs) | ((with_reducible refine wrapn hs ?_); clear hs; intro w hs) | ((with_reducible refine wrapd hs ?_); clear hs; intro w hs)))
    refine end_ret rfl (results_tmp2 rfl _ _ _) ?_
    exact any_lead (r := 156) (s := 0) rfl (by decide) hs
  by_cases k144 : r = 144
  · subst k144
    go_enter Try.func14, Try.ntmps14
    go_wp2_with (first | (go_at_call 25; refine (leave25 (s := 7) HOK.out hs).mono ?_; clear hs; rintro e w ⟨a, c, rfl, hs⟩) | (go_at_call 26; refine (in26 hs).mono ?_; clear hs; rintro e w ⟨rfl, hs⟩) | ((with_reducible refine isl ?_); first | ((with_reducible refine wrap hs ?_); clear hs; intro w hs) | ((with_reducible refine wrapn hs ?_); clear hs; intro w hs) | ((with_reducible refine wrapd hs ?_); clear hs; intro w hs)))
    refine end_ret rfl (results_tmp2 rfl _ _ _) ?_
    exact any_lead (r := 144) (s := 7) rfl (by decide) hs
  by_cases k152 : r = 152
  · subst k152
    go_enter Try.func14, Try.ntmps14
    go_wp2_with (first | (go_at_call 25; refine (leave25 (s := 13) HOK.out hs).mono ?_; clear hs; rintro e w ⟨a, c, rfl, hs⟩) | (go_at_call 26; refine (in26 hs).mono ?_; clear hs; rintro e w ⟨rfl, hs⟩) | ((with_reducible refine isl ?_); first | ((with_reducible refine wrap hs ?_); clear hs; intro w hs) | ((with_reducible refine wrapn hs ?_); clear hs; intro w hs) | ((with_reducible refine wrapd hs ?_); clear hs; intro w hs)))
    refine end_ret rfl (results_tmp2 rfl _ _ _) ?_
    exact any_lead (r := 152) (s := 13) rfl (by decide) hs
  by_cases k158 : r = 158
  · subst k158
    go_enter Try.func14, Try.ntmps14
    go_wp2_with (first | (go_at_call 25; refine (leave25 (s := 13) HOK.out hs).mono ?_; clear hs; rintro e w ⟨a, c, rfl, hs⟩) | (go_at_call 26; refine (in26 hs).mono ?_; clear hs; rintro e w ⟨rfl, hs⟩) | ((with_reducible refine isl ?_); first | ((with_reducible refine wrap hs ?_); clear hs; intro w hs) | ((with_reducible refine wrapn hs ?_); clear hs; intro w hs) | ((with_reducible refine wrapd hs ?_); clear hs; intro w hs)))
    refine end_ret rfl (results_tmp2 rfl _ _ _) ?_
    exact any_lead (r := 158) (s := 13) rfl (by decide) hs
  by_cases k159 : r = 159
  · subst k159
    go_enter Try.func14, Try.ntmps14
    go_wp2_with (first | (go_at_call 25; refine (leave25 (s := 13) HOK.out hs).mono ?_; clear hs; rintro e w ⟨a, c, rfl, hs⟩) | (go_at_call 26; refine (in26 hs).mono ?_; clear hs; rintro e w ⟨rfl, hs⟩) | ((with_reducible refine isl ?_); first | ((with_reducible refine wrap hs ?_); clear hs; intro w hs) | ((with_reducible refine wrapn hs ?_); clear hs; intro w hs) | ((with_reducible refine wrapd hs ?_); clear hs; intro w hs)))
    refine end_ret rfl (results_tmp2 rfl _ _ _) ?_
    exact any_lead (r := 159) (s := 13) rfl (by decide) hs
  by_cases k155 : r = 155
  · subst k155
    go_enter Try.func14, Try.ntmps14
    go_wp2_with (first | (go_at_call 25; refine (leave25 (s := 3) HOK.out hs).mono ?_; clear hs; rintro e w ⟨a, c, rfl, hs⟩) | (go_at_call 26; refine (in26 hs).mono ?_; clear hs; rintro e w ⟨rfl, hs⟩) | ((with_reducible refine isl ?_); first | ((with_reducible refine wrap hs ?_); clear hs; intro w hs) | ((with_reducible refine wrapn hs ?_); clear hs; intro w hs) | ((with_reducible refine wrapd hs ?_); clear hs; intro w hs)))
    refine end_ret rfl (results_tmp2 rfl _ _ _) ?_
    exact any_lead (r := 155) (s := 3) rfl (by decide) hs
  by_cases k157 : r = 157
  · subst k157
    go_enter Try.func14, Try.ntmps14
    go_wp2_with (first | (go_at_call 25; refine (leave25 (s := 12) HOK.out hs).mono ?_; clear hs; rintro e w ⟨a, c, rfl, hs⟩) | (go_at_call 26; refine (in26 hs).mono ?_; clear hs; rintro e w ⟨rfl, hs⟩) | ((with_reducible refine isl ?_); first | ((with_reducible refine wrap hs ?_); clear hs; intro w hs) | ((with_reducible refine wrapn hs ?_); clear hs; intro w hs) | ((with_reducible refine wrapd hs ?_); clear hs; intro w hs)))
    refine end_ret rfl (results_tmp2 rfl _ _ _) ?_
    exact any_lead (r := 157) (s := 12) rfl (by decide) hs
  by_cases k24 : r = 24
  · subst k24
    go_enter Try.func14, Try.ntmps14
    go_wp2_with (first | (go_at_call 25; refine (leave25 (s := 0) HOK.out hs).mono ?_; clear hs; rintro e w ⟨a, c, rfl, hs⟩) | (go_at_call 26; refine (in26 hs).mono ?_; clear hs; rintro e w ⟨rfl, hs⟩) | (go_at_call 27; refine (exec27 hs).mono ?_; clear hs; rintro e w ⟨a2, c2, rfl, hs⟩) | (apply appacs hs.b1; exact rfl; exact rfl; exact rfl; exact rfl; exact slty26; (have := HLE.out; omega); clear hs; intro a5 c5 w hs) | ((with_reducible refine isl ?_); first | ((with_reducible refine wrap hs ?_); clear hs; intro w hs) | ((with_reducible refine wrapn hs ?_); clear hs; intro w hs) | ((with_reducible refine wrapd hs ?_); clear hs; intro w hs)))
    refine end_ret rfl (results_tmp2 rfl _ _ _) ?_
    exact any_exec (r := 24) rfl (by decide) hs
  by_cases k26 : r = 26
  · subst k26
    go_enter Try.func14, Try.ntmps14
    go_wp2_with (first | (go_at_call 25; refine (leave25 (s := 0) HOK.out hs).mono ?_; clear hs; rintro e w ⟨a, c, rfl, hs⟩) | (go_at_call 26; refine (in26 hs).mono ?_; clear hs; rintro e w ⟨rfl, hs⟩) | (go_at_call 27; refine (exec27 hs).mono ?_; clear hs; rintro e w ⟨a2, c2, rfl, hs⟩) | (apply appacs hs.b1; exact rfl; exact rfl; exact rfl; exact rfl; exact slty26; (have := HLE.out; omega); clear hs; intro a5 c5 w hs) | ((with_reducible refine isl ?_); first | ((with_reducible refine wrap hs ?_); clear hs; intro w hs) | ((with_reducible refine wrapn hs ?_); clear hs; intro w hs) | ((with_reducible refine wrapd hs ?_); clear hs; intro w hs)))
    refine end_ret rfl (results_tmp2 rfl _ _ _) ?_
    exact any_exec (r := 26) rfl (by decide) hs
  have b27 : (r == 27) = false := by simp; omega
  have b156 : (r == 156) = false := by simp; omega
  have b144 : (r == 144) = false := by simp; omega
  have b152 : (r == 152) = false := by simp; omega
  have b158 : (r == 158) = false := by simp; omega
  have b159 : (r == 159) = false := by simp; omega
  have b155 : (r == 155) = false := by simp; omega
  have b157 : (r == 157) = false := by simp; omega
  have b24 : (r == 24) = false := by simp; omega
  have b26 : (r == 26) = false := by simp; omega
  have HL : Hid (lead r = if 128 ≤ r ∧ r ≤ 159 then some 0 else none) := Lib.hid (by
    unfold lead
    rw [if_neg k27, if_neg k156, if_neg k144, if_neg (by omega), if_neg k155, if_neg k157]
    by_cases h : 128 ≤ r ∧ r ≤ 159
    · rw [if_pos h, if_pos (.inr (.inr h))]
    · rw [if_neg h, if_neg (by omega)])
  have h156 := Lib.hid k156
  clear k27 k156 k144 k152 k158 k159 k155 k157 k24 k26
  by_cases h : 128 ≤ r ∧ r ≤ 159
  · have HR : Hid (lead r = some 0) := Lib.hid (by rw [HL.out, if_pos h])
    have hd : decide (128 ≤ r ∧ r ≤ 159) = true := decide_eq_true h
    clear h
    go_enter Try.func14, Try.ntmps14
    go_wp2_with (first | (go_at_call 25; refine (leave25 (s := 0) HOK.out hs).mono ?_; clear hs; rintro e w ⟨a, c, rfl, hs⟩) | (go_at_call 26; refine (in26 hs).mono ?_; clear hs; rintro e w ⟨rfl, hs⟩; rw [hd]) | (go_at_call 27; refine (exec27 hs).mono ?_; clear hs; rintro e w ⟨a2, c2, rfl, hs⟩) | (apply appacs hs.b1; exact rfl; exact rfl; exact rfl; exact rfl; exact slty26; (have := HLE.out; omega); clear hs; intro a5 c5 w hs) | ((with_reducible refine isl ?_); first | ((with_reducible refine wrap hs ?_); clear hs; intro w hs) | ((with_reducible refine wrapn hs ?_); clear hs; intro w hs) | ((with_reducible refine wrapd hs ?_); clear hs; intro w hs)))
    refine end_ret rfl (results_tmp2 rfl _ _ _) ?_
    exact any_exec HR.out h156.out hs
  · have HR : Hid (lead r = none) := Lib.hid (by rw [HL.out, if_neg h])
    have hd : decide (128 ≤ r ∧ r ≤ 159) = false := decide_eq_false h
    clear h
    go_enter Try.func14, Try.ntmps14
    go_wp2_with (first | (go_at_call 26; refine (in26 hs).mono ?_; clear hs; rintro e w ⟨rfl, hs⟩; rw [hd]) | ((with_reducible refine isl ?_); first | ((with_reducible refine wrap hs ?_); clear hs; intro w hs) | ((with_reducible refine wrapn hs ?_); clear hs; intro w hs) | ((with_reducible refine wrapd hs ?_); clear hs; intro w hs)))
    refine end_ret rfl (results_tmp2 rfl _ _ _) ?_
    exact any_none HR.out hs
end Go.Proofs.Ytojgdpccjlgmiaa
