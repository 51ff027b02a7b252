/- Law 21: a known grid, what is known of it. -/
import Derived.Test.YtcheljogpffabaaR12
import Derived.Test.YtcheljogpffabaaSf
namespace Go.Rev
open Go.Words Go.Proofs.Ytcheljogpffabaa
def oneG : Gd := ⟨[[⟨97, [], 0⟩, ⟨98, [], 0⟩, ⟨32, [], 0⟩, ⟨99, [], 0⟩]], [1], 0, 0⟩
theorem one_words : words (oneG.bl 0) = [(0, 2), (3, 4)] := by
  have : oneG.bl 0 = [false, false, true, false] := by decide
  rw [this]
  refine (words_eq ?_).symm
  refine ⟨?_, ?_, ?_, ?_⟩
  · decide
  · decide
  · intro x hx j h1 h2
    simp at hx
    rcases hx with rfl | rfl
    · have : j = 0 ∨ j = 1 := by simp at h2; omega
      rcases this with rfl | rfl <;> rfl
    · have : j = 3 := by simp at h1 h2; omega
      subst this; rfl
  · intro j _ h
    have hj := (List.getElem?_eq_some_iff.1 h).1
    have : j = 0 ∨ j = 1 ∨ j = 2 ∨ j = 3 := by simp at hj; omega
    rcases this with rfl | rfl | rfl | rfl
    · exact ⟨(0, 2), by simp, by decide, by decide⟩
    · exact ⟨(0, 2), by simp, by decide, by decide⟩
    · simp at h
    · exact ⟨(3, 4), by simp, by decide, by decide⟩
theorem one_fit : Fit oneG 1 4 := ⟨by decide, by decide, by decide, rfl, rfl, by decide, by decide⟩
theorem k1 : doA oneG ⟨0, 0, 0⟩ (12 : Nat) = ⟨0, 0, 0, 1, [97], false⟩ ∧ doV oneG ⟨0, 0, 0⟩ (12 : Nat) = ⟨1, 0, 0⟩ := ⟨rfl, rfl⟩
theorem k2 : doA oneG ⟨1, 0, 0⟩ (13 : Nat) = ⟨0, 0, 0, 2, [97, 98], false⟩ ∧ doV oneG ⟨1, 0, 0⟩ (13 : Nat) = ⟨1, 0, 0⟩ := by
  have h : doR oneG ⟨1, 0, 0⟩ (13 : Nat) = (0, 0, false) := rfl
  refine ⟨?_, rfl⟩
  unfold doA
  rw [h]
  show ans oneG 1 0 0 false = _
  unfold ans
  rw [one_words]
  rfl
theorem k3 : doA oneG ⟨1, 0, 0⟩ (6 : Nat) = ⟨0, 3, 3, 4, [99], false⟩ ∧ doV oneG ⟨1, 0, 0⟩ (6 : Nat) = ⟨1, 0, 3⟩ := by
  have h : doR oneG ⟨1, 0, 0⟩ (6 : Nat) = (0, 3, false) := by
    have : goTo oneG 0 0 (6 : Nat) = some (0, 3) := by
      show rightW oneG 1 0 0 = _
      unfold rightW
      rw [one_words]
      rfl
    unfold doR
    show (match goTo oneG 0 0 (6 : Nat) with | some p => (p.1, p.2, false) | none => _) = _
    rw [this]
  constructor
  · unfold doA
    rw [h]
    show ans oneG 1 0 3 false = _
    unfold ans
    rw [one_words]
    rfl
  · unfold doV
    rw [h]
    rfl
theorem k4 : doA oneG ⟨1, 0, 3⟩ (2 : Nat) = ⟨0, 3, 3, 4, [99], true⟩ ∧ doV oneG ⟨1, 0, 3⟩ (2 : Nat) = ⟨1, 0, 3⟩ := ⟨rfl, rfl⟩
theorem k5 : doA oneG ⟨1, 0, 3⟩ (3 : Nat) = ⟨0, 3, 0, 4, [97, 98, 32, 99], true⟩ ∧ doV oneG ⟨1, 0, 3⟩ (3 : Nat) = ⟨1, 0, 3⟩ := ⟨rfl, rfl⟩
end Go.Rev
namespace Go.Proofs.Ytcheljogpffabaa
open Go.RowKit Go.Mem Go.Words Go.Deep Go.Rev
variable {W w : World} {H : List HProp}
abbrev oneC : List Cm := [⟨⟨97, [], 0⟩, none, 0, 0, 0, 0⟩, ⟨⟨98, [], 0⟩, none, 0, 0, 0, 0⟩, ⟨⟨32, [], 0⟩, none, 0, 0, 0, 0⟩, ⟨⟨99, [], 0⟩, none, 0, 0, 0, 0⟩]
abbrev oneM (z1 z2 z3 : Nat) : Gm := ⟨some ⟨z3, 0, none⟩, 1, 1, some ⟨z1, 0, none⟩, 1, 1, [⟨some ⟨z2, 0, none⟩, 4, 4, oneC⟩], [1], 0, 0, .bool false, .bool false, .bool false, .int .i64 0, .int .i64 0, .int .u32 0, .int .u32 0, .int .u16 0⟩
/-- The known grid's blocks. -/
def onP (z1 z2 z3 : Nat) : HProp := star (cel z1 3 [.int .i64 1]) (star (cel z2 60 (oneC.map cmV).flatten) (cel z3 57 [.slice (some ⟨z2, 0, none⟩) 4 4]))
theorem one_gd (z1 z2 z3 : Nat) : (oneM z1 z2 z3).gd = oneG := rfl
theorem one_lim (z1 z2 z3 : Nat) : Lim (oneM z1 z2 z3) := ⟨Nat.le_of_ble_eq_true rfl, Nat.le_of_ble_eq_true rfl, by show ∀ r ∈ oneG.rows, size r ≤ 600; decide⟩
theorem one_cs {z : Nat} : CS W (cel z 60 (oneC.map cmV).flatten :: H) (some ⟨z, 0, none⟩) 4 4 oneC :=
  ⟨SR.of_cel (by decide) rfl (by unfold maxLen; omega) (by intro r hr; obtain ⟨p, _, rfl⟩ := List.mem_map.1 hr; rfl), by
    intro m hm w' _
    have : m.ca = none ∧ m.c.comb = [] ∧ m.cc = 0 := by
      simp only [oneC, List.mem_cons, List.not_mem_nil, or_false] at hm
      rcases hm with rfl | rfl | rfl | rfl <;> exact ⟨rfl, rfl, rfl⟩
    rw [this.1, this.2.1, this.2.2]
    exact ⟨Nat.zero_le _, none, 0, rfl, fun h => (h rfl).elim⟩⟩
theorem _root_.Go.Mem.sat.on_open {z1 z2 z3 : Nat} (hs : sat W (onP z1 z2 z3 :: H) w) : sat W (cel z1 3 [.int .i64 1] :: cel z2 60 (oneC.map cmV).flatten :: cel z3 57 [.slice (some ⟨z2, 0, none⟩) 4 4] :: H) w := by
  unfold onP at hs
  have hs := hs.unstar.b1.unstar
  exact (by refine sb_from ?_ hs; repeat constructor)
theorem one_gs (z1 z2 z3 : Nat) : GS W (onP z1 z2 z3 :: H) (oneM z1 z2 z3) := by
  refine ⟨?_, ?_, ?_⟩
  · exact (SR.of_cel (L := [[.slice (some ⟨z2, 0, none⟩) 4 4]]) (b := z3) (T := 57) (by decide) rfl (by unfold maxLen; omega) (by intro r hr; simp at hr; subst hr; rfl) : SR 1 W (cel z3 57 _ :: H) _ 1 1 _).mono fun w' hs => by have hs := hs.on_open; (refine sb_from ?_ hs; repeat constructor)
  · exact (SR.of_cel (L := [[.int .i64 1]]) (b := z1) (T := 3) (by decide) rfl (by unfold maxLen; omega) (by intro r hr; simp at hr; subst hr; rfl) : SR 1 W (cel z1 3 _ :: H) _ 1 1 _).mono fun w' hs => by have hs := hs.on_open; (refine sb_from ?_ hs; repeat constructor)
  · intro r hr
    simp only [List.mem_singleton] at hr
    subst hr
    exact (one_cs (z := z2) (H := H)).mono fun w' hs => by have hs := hs.on_open; (refine sb_from ?_ hs; repeat constructor)
attribute [local irreducible] rowTy oneTy World.setCell World.setCells World.alloc World.drew World.drewN Calls sat cel own blk old wpQuiet wpList tx onP
set_option maxRecDepth 20000 in
theorem one19 (hs : sat W H w) : Calls Try.prog 19 #[] w fun e w' => ∃ z1 z2 z3, e = .returned (.agg (gV (oneM z1 z2 z3)).toArray) ∧ sat W (onP z1 z2 z3 :: H) w' := by
  go_enter Try.func19, Try.ntmps19
  go_wp2_with (first | ((with_reducible refine isl ?_); first | ((with_reducible apply stswx); exact rfl; exact rfl; exact rfl; (first | exact hs.b0 | exact hs.b1 | exact hs.b2 | exact hs.b3 | exact hs.b4); exact rfl; exact row34; exact rfl; exact rfl; exact rfl; clear hs; intro w hs) | ((with_reducible refine wrap hs ?_); clear hs; (first | (have _t := z2; clear _t; generalize w.heap.size = z3) | (have _t := z1; clear _t; generalize w.heap.size = z2) | (have _t := zr; clear _t; generalize w.heap.size = z1) | generalize w.heap.size = zr); intro w hs) | ((with_reducible refine wrap hs ?_); clear hs; intro w hs) | ((with_reducible refine wrapn hs ?_); clear hs; intro w hs) | ((with_reducible refine wrapd hs ?_); clear hs; intro w hs)))
  refine ret_cell hs rfl rfl rfl row34 ?_
  refine ⟨z1, z2, z3, rfl, ?_⟩
  have hs := hs.drop
  have hs1 : sat W (cel z2 60 (oneC.map cmV).flatten :: cel z3 57 [.slice (some ⟨z2, 0, none⟩) 4 4] :: cel z1 3 [.int .i64 1] :: H) w := by refine sb_from ?_ hs; repeat constructor
  exact (hs1.star.b1.star.imp (B := onP z1 z2 z3) fun h hh => by unfold onP; exact hh)
set_option maxHeartbeats 4000000 in
set_option maxRecDepth 20000 in
theorem known7 (hs : sat W H w) : Calls Try.prog 7 #[] w fun e w' => e = .returned (.bool true) ∧ sat W H w' := by
  go_enter Try.func7, Try.ntmps7
  go_upto_region 8 with (first | (go_at_call 10; refine (new10 hs).mono ?_; clear hs; rintro e w ⟨v, rfl, hs⟩) | (go_at_call 19; refine (one19 hs).mono ?_; clear hs; rintro e w ⟨z1, z2, z3, rfl, hs⟩) | (go_at_call 14; first | (refine (do14_yes (g := oneM z1 z2 z3) (n := 1) (m := 4) (p := ⟨0, 0, 0⟩) (c := 12) (by decide) hs.b0 (by exact (one_gs (H := []) z1 z2 z3).mono fun _ h => by (refine sb_from ?_ h; repeat constructor)) (one_lim z1 z2 z3) one_fit k1.1 k1.2).mono ?_; clear hs; rintro e w ⟨a1, c1, rfl, hs⟩) | (refine (do14_yes (g := oneM z1 z2 z3) (n := 1) (m := 4) (p := ⟨0, 0, 0⟩) (c := 12) (by decide) hs.b1 (by exact (one_gs (H := []) z1 z2 z3).mono fun _ h => by (refine sb_from ?_ h; repeat constructor)) (one_lim z1 z2 z3) one_fit k1.1 k1.2).mono ?_; clear hs; rintro e w ⟨a1, c1, rfl, hs⟩) | (refine (do14_yes (g := oneM z1 z2 z3) (n := 1) (m := 4) (p := ⟨0, 0, 0⟩) (c := 12) (by decide) hs.b2 (by exact (one_gs (H := []) z1 z2 z3).mono fun _ h => by (refine sb_from ?_ h; repeat constructor)) (one_lim z1 z2 z3) one_fit k1.1 k1.2).mono ?_; clear hs; rintro e w ⟨a1, c1, rfl, hs⟩) | (refine (do14_yes (g := oneM z1 z2 z3) (n := 1) (m := 4) (p := ⟨0, 0, 0⟩) (c := 12) (by decide) hs.b3 (by exact (one_gs (H := []) z1 z2 z3).mono fun _ h => by (refine sb_from ?_ h; repeat constructor)) (one_lim z1 z2 z3) one_fit k1.1 k1.2).mono ?_; clear hs; rintro e w ⟨a1, c1, rfl, hs⟩) | (refine (do14_yes (g := oneM z1 z2 z3) (n := 1) (m := 4) (p := ⟨0, 0, 0⟩) (c := 12) (by decide) hs.b4 (by exact (one_gs (H := []) z1 z2 z3).mono fun _ h => by (refine sb_from ?_ h; repeat constructor)) (one_lim z1 z2 z3) one_fit k1.1 k1.2).mono ?_; clear hs; rintro e w ⟨a1, c1, rfl, hs⟩) | (refine (do14_yes (g := oneM z1 z2 z3) (n := 1) (m := 4) (p := ⟨0, 0, 0⟩) (c := 12) (by decide) hs.b5 (by exact (one_gs (H := []) z1 z2 z3).mono fun _ h => by (refine sb_from ?_ h; repeat constructor)) (one_lim z1 z2 z3) one_fit k1.1 k1.2).mono ?_; clear hs; rintro e w ⟨a1, c1, rfl, hs⟩)) | (go_at_call 14; first | (refine (do14_yes (g := oneM z1 z2 z3) (n := 1) (m := 4) (p := ⟨1, 0, 0⟩) (c := 13) (by decide) hs.b0 (by exact (one_gs (H := []) z1 z2 z3).mono fun _ h => by (refine sb_from ?_ h; repeat constructor)) (one_lim z1 z2 z3) one_fit k2.1 k2.2).mono ?_; clear hs; rintro e w ⟨a2, c2, rfl, hs⟩) | (refine (do14_yes (g := oneM z1 z2 z3) (n := 1) (m := 4) (p := ⟨1, 0, 0⟩) (c := 13) (by decide) hs.b1 (by exact (one_gs (H := []) z1 z2 z3).mono fun _ h => by (refine sb_from ?_ h; repeat constructor)) (one_lim z1 z2 z3) one_fit k2.1 k2.2).mono ?_; clear hs; rintro e w ⟨a2, c2, rfl, hs⟩) | (refine (do14_yes (g := oneM z1 z2 z3) (n := 1) (m := 4) (p := ⟨1, 0, 0⟩) (c := 13) (by decide) hs.b2 (by exact (one_gs (H := []) z1 z2 z3).mono fun _ h => by (refine sb_from ?_ h; repeat constructor)) (one_lim z1 z2 z3) one_fit k2.1 k2.2).mono ?_; clear hs; rintro e w ⟨a2, c2, rfl, hs⟩) | (refine (do14_yes (g := oneM z1 z2 z3) (n := 1) (m := 4) (p := ⟨1, 0, 0⟩) (c := 13) (by decide) hs.b3 (by exact (one_gs (H := []) z1 z2 z3).mono fun _ h => by (refine sb_from ?_ h; repeat constructor)) (one_lim z1 z2 z3) one_fit k2.1 k2.2).mono ?_; clear hs; rintro e w ⟨a2, c2, rfl, hs⟩) | (refine (do14_yes (g := oneM z1 z2 z3) (n := 1) (m := 4) (p := ⟨1, 0, 0⟩) (c := 13) (by decide) hs.b4 (by exact (one_gs (H := []) z1 z2 z3).mono fun _ h => by (refine sb_from ?_ h; repeat constructor)) (one_lim z1 z2 z3) one_fit k2.1 k2.2).mono ?_; clear hs; rintro e w ⟨a2, c2, rfl, hs⟩) | (refine (do14_yes (g := oneM z1 z2 z3) (n := 1) (m := 4) (p := ⟨1, 0, 0⟩) (c := 13) (by decide) hs.b5 (by exact (one_gs (H := []) z1 z2 z3).mono fun _ h => by (refine sb_from ?_ h; repeat constructor)) (one_lim z1 z2 z3) one_fit k2.1 k2.2).mono ?_; clear hs; rintro e w ⟨a2, c2, rfl, hs⟩)) | (go_at_call 14; first | (refine (do14_yes (g := oneM z1 z2 z3) (n := 1) (m := 4) (p := ⟨1, 0, 0⟩) (c := 6) (by decide) hs.b0 (by exact (one_gs (H := []) z1 z2 z3).mono fun _ h => by (refine sb_from ?_ h; repeat constructor)) (one_lim z1 z2 z3) one_fit k3.1 k3.2).mono ?_; clear hs; rintro e w ⟨a3, c3, rfl, hs⟩) | (refine (do14_yes (g := oneM z1 z2 z3) (n := 1) (m := 4) (p := ⟨1, 0, 0⟩) (c := 6) (by decide) hs.b1 (by exact (one_gs (H := []) z1 z2 z3).mono fun _ h => by (refine sb_from ?_ h; repeat constructor)) (one_lim z1 z2 z3) one_fit k3.1 k3.2).mono ?_; clear hs; rintro e w ⟨a3, c3, rfl, hs⟩) | (refine (do14_yes (g := oneM z1 z2 z3) (n := 1) (m := 4) (p := ⟨1, 0, 0⟩) (c := 6) (by decide) hs.b2 (by exact (one_gs (H := []) z1 z2 z3).mono fun _ h => by (refine sb_from ?_ h; repeat constructor)) (one_lim z1 z2 z3) one_fit k3.1 k3.2).mono ?_; clear hs; rintro e w ⟨a3, c3, rfl, hs⟩) | (refine (do14_yes (g := oneM z1 z2 z3) (n := 1) (m := 4) (p := ⟨1, 0, 0⟩) (c := 6) (by decide) hs.b3 (by exact (one_gs (H := []) z1 z2 z3).mono fun _ h => by (refine sb_from ?_ h; repeat constructor)) (one_lim z1 z2 z3) one_fit k3.1 k3.2).mono ?_; clear hs; rintro e w ⟨a3, c3, rfl, hs⟩) | (refine (do14_yes (g := oneM z1 z2 z3) (n := 1) (m := 4) (p := ⟨1, 0, 0⟩) (c := 6) (by decide) hs.b4 (by exact (one_gs (H := []) z1 z2 z3).mono fun _ h => by (refine sb_from ?_ h; repeat constructor)) (one_lim z1 z2 z3) one_fit k3.1 k3.2).mono ?_; clear hs; rintro e w ⟨a3, c3, rfl, hs⟩) | (refine (do14_yes (g := oneM z1 z2 z3) (n := 1) (m := 4) (p := ⟨1, 0, 0⟩) (c := 6) (by decide) hs.b5 (by exact (one_gs (H := []) z1 z2 z3).mono fun _ h => by (refine sb_from ?_ h; repeat constructor)) (one_lim z1 z2 z3) one_fit k3.1 k3.2).mono ?_; clear hs; rintro e w ⟨a3, c3, rfl, hs⟩)) | (go_at_call 14; first | (refine (do14_yes (g := oneM z1 z2 z3) (n := 1) (m := 4) (p := ⟨1, 0, 3⟩) (c := 2) (by decide) hs.b0 (by exact (one_gs (H := []) z1 z2 z3).mono fun _ h => by (refine sb_from ?_ h; repeat constructor)) (one_lim z1 z2 z3) one_fit k4.1 k4.2).mono ?_; clear hs; rintro e w ⟨a4, c4, rfl, hs⟩) | (refine (do14_yes (g := oneM z1 z2 z3) (n := 1) (m := 4) (p := ⟨1, 0, 3⟩) (c := 2) (by decide) hs.b1 (by exact (one_gs (H := []) z1 z2 z3).mono fun _ h => by (refine sb_from ?_ h; repeat constructor)) (one_lim z1 z2 z3) one_fit k4.1 k4.2).mono ?_; clear hs; rintro e w ⟨a4, c4, rfl, hs⟩) | (refine (do14_yes (g := oneM z1 z2 z3) (n := 1) (m := 4) (p := ⟨1, 0, 3⟩) (c := 2) (by decide) hs.b2 (by exact (one_gs (H := []) z1 z2 z3).mono fun _ h => by (refine sb_from ?_ h; repeat constructor)) (one_lim z1 z2 z3) one_fit k4.1 k4.2).mono ?_; clear hs; rintro e w ⟨a4, c4, rfl, hs⟩) | (refine (do14_yes (g := oneM z1 z2 z3) (n := 1) (m := 4) (p := ⟨1, 0, 3⟩) (c := 2) (by decide) hs.b3 (by exact (one_gs (H := []) z1 z2 z3).mono fun _ h => by (refine sb_from ?_ h; repeat constructor)) (one_lim z1 z2 z3) one_fit k4.1 k4.2).mono ?_; clear hs; rintro e w ⟨a4, c4, rfl, hs⟩) | (refine (do14_yes (g := oneM z1 z2 z3) (n := 1) (m := 4) (p := ⟨1, 0, 3⟩) (c := 2) (by decide) hs.b4 (by exact (one_gs (H := []) z1 z2 z3).mono fun _ h => by (refine sb_from ?_ h; repeat constructor)) (one_lim z1 z2 z3) one_fit k4.1 k4.2).mono ?_; clear hs; rintro e w ⟨a4, c4, rfl, hs⟩) | (refine (do14_yes (g := oneM z1 z2 z3) (n := 1) (m := 4) (p := ⟨1, 0, 3⟩) (c := 2) (by decide) hs.b5 (by exact (one_gs (H := []) z1 z2 z3).mono fun _ h => by (refine sb_from ?_ h; repeat constructor)) (one_lim z1 z2 z3) one_fit k4.1 k4.2).mono ?_; clear hs; rintro e w ⟨a4, c4, rfl, hs⟩)) | (go_at_call 14; first | (refine (do14_yes (g := oneM z1 z2 z3) (n := 1) (m := 4) (p := ⟨1, 0, 3⟩) (c := 3) (by decide) hs.b0 (by exact (one_gs (H := []) z1 z2 z3).mono fun _ h => by (refine sb_from ?_ h; repeat constructor)) (one_lim z1 z2 z3) one_fit k5.1 k5.2).mono ?_; clear hs; rintro e w ⟨a5, c5, rfl, hs⟩) | (refine (do14_yes (g := oneM z1 z2 z3) (n := 1) (m := 4) (p := ⟨1, 0, 3⟩) (c := 3) (by decide) hs.b1 (by exact (one_gs (H := []) z1 z2 z3).mono fun _ h => by (refine sb_from ?_ h; repeat constructor)) (one_lim z1 z2 z3) one_fit k5.1 k5.2).mono ?_; clear hs; rintro e w ⟨a5, c5, rfl, hs⟩) | (refine (do14_yes (g := oneM z1 z2 z3) (n := 1) (m := 4) (p := ⟨1, 0, 3⟩) (c := 3) (by decide) hs.b2 (by exact (one_gs (H := []) z1 z2 z3).mono fun _ h => by (refine sb_from ?_ h; repeat constructor)) (one_lim z1 z2 z3) one_fit k5.1 k5.2).mono ?_; clear hs; rintro e w ⟨a5, c5, rfl, hs⟩) | (refine (do14_yes (g := oneM z1 z2 z3) (n := 1) (m := 4) (p := ⟨1, 0, 3⟩) (c := 3) (by decide) hs.b3 (by exact (one_gs (H := []) z1 z2 z3).mono fun _ h => by (refine sb_from ?_ h; repeat constructor)) (one_lim z1 z2 z3) one_fit k5.1 k5.2).mono ?_; clear hs; rintro e w ⟨a5, c5, rfl, hs⟩) | (refine (do14_yes (g := oneM z1 z2 z3) (n := 1) (m := 4) (p := ⟨1, 0, 3⟩) (c := 3) (by decide) hs.b4 (by exact (one_gs (H := []) z1 z2 z3).mono fun _ h => by (refine sb_from ?_ h; repeat constructor)) (one_lim z1 z2 z3) one_fit k5.1 k5.2).mono ?_; clear hs; rintro e w ⟨a5, c5, rfl, hs⟩) | (refine (do14_yes (g := oneM z1 z2 z3) (n := 1) (m := 4) (p := ⟨1, 0, 3⟩) (c := 3) (by decide) hs.b5 (by exact (one_gs (H := []) z1 z2 z3).mono fun _ h => by (refine sb_from ?_ h; repeat constructor)) (one_lim z1 z2 z3) one_fit k5.1 k5.2).mono ?_; clear hs; rintro e w ⟨a5, c5, rfl, hs⟩)) | ((with_reducible refine isl ?_); first | ((with_reducible apply stswx); exact rfl; exact rfl; exact rfl; (first | exact hs.b0 | exact hs.b1 | exact hs.b2 | exact hs.b3 | exact hs.b4); exact rfl; exact row34; exact rfl; exact rfl; exact rfl; clear hs; intro w hs) | ((with_reducible apply ldswx); exact rfl; exact rfl; exact rfl; (first | exact hs.b0 | exact hs.b1 | exact hs.b2 | exact hs.b3 | exact hs.b4 | exact hs.b5 | exact hs.b6 | exact hs.b7 | exact hs.b8 | exact hs.b9 | exact hs.b10 | exact hs.b11 | exact hs.b12 | exact hs.b13); exact row34) | ((with_reducible apply stswx); exact rfl; exact rfl; exact rfl; (first | exact hs.b0 | exact hs.b1 | exact hs.b2); exact rfl; exact row49; exact rfl; exact rfl; exact rfl; clear hs; intro w hs) | ((with_reducible apply ldx); exact rfl; exact rfl; exact rfl; (first | exact hs.b0 | exact hs.b1 | exact hs.b2 | exact hs.b3 | exact hs.b4 | exact hs.b5 | exact hs.b6 | exact hs.b7 | exact hs.b8 | exact hs.b9); exact rfl; kernel_rfl) | ((with_reducible apply stx); exact rfl; exact rfl; exact rfl; (first | exact hs.b0 | exact hs.b1 | exact hs.b2 | exact hs.b3 | exact hs.b4 | exact hs.b5 | exact hs.b6 | exact hs.b7 | exact hs.b8 | exact hs.b9); exact rfl; exact rfl; exact rfl; kernel_rfl; exact rfl; clear hs; intro w hs) | ((with_reducible apply stcx); exact rfl; exact rfl; exact rfl; (first | exact hs.b0 | exact hs.b1 | exact hs.b2 | exact hs.b3 | exact hs.b4 | exact hs.b5 | exact hs.b6 | exact hs.b7 | exact hs.b8 | exact hs.b9); exact rfl; exact rfl; kernel_rfl; exact rfl; clear hs; intro w hs) | ((with_reducible refine wrap hs ?_); clear hs; (first | (have _t := y4; clear _t; generalize w.heap.size = y5) | (have _t := y3; clear _t; generalize w.heap.size = y4) | (have _t := y2; clear _t; generalize w.heap.size = y3) | (have _t := y1; clear _t; generalize w.heap.size = y2) | (have _t := zg; clear _t; generalize w.heap.size = y1) | generalize w.heap.size = zg); intro w hs) | ((with_reducible refine wrap hs ?_); clear hs; intro w hs) | ((with_reducible refine wrapn hs ?_); clear hs; intro w hs) | ((with_reducible refine wrapd hs ?_); clear hs; intro w hs)))
  replace hs : sat W (cel y5 49 (anL ⟨0, 3, 0, 4, [97, 98, 32, 99], true⟩ a5 c5) :: cel y4 49 (anL ⟨0, 3, 3, 4, [99], true⟩ a4 c4) :: cel y3 49 (anL ⟨0, 3, 3, 4, [99], false⟩ a3 c3) :: own 21 1 (.slice a3 ([99] : List Int).length c3) ([99] : List Int).length (i32s [99]) :: cel y2 49 (anL ⟨0, 0, 0, 2, [97, 98], false⟩ a2 c2) :: cel y1 49 (anL ⟨0, 0, 0, 1, [97], false⟩ a1 c1) :: own 21 1 (.slice a1 ([97] : List Int).length c1) ([97] : List Int).length (i32s [97]) :: H) w := by refine sb_from ?_ hs; repeat constructor
  replace hs : sat W (own 21 1 (.slice a1 ([97] : List Int).length c1) ([97] : List Int).length (i32s [97]) :: own 21 1 (.slice a3 ([99] : List Int).length c3) ([99] : List Int).length (i32s [99]) :: cel y1 49 (anL ⟨0, 0, 0, 1, [97], false⟩ a1 c1) :: cel y2 49 (anL ⟨0, 0, 0, 2, [97, 98], false⟩ a2 c2) :: cel y3 49 (anL ⟨0, 3, 3, 4, [99], false⟩ a3 c3) :: cel y4 49 (anL ⟨0, 3, 3, 4, [99], true⟩ a4 c4) :: cel y5 49 (anL ⟨0, 3, 0, 4, [97, 98, 32, 99], true⟩ a5 c5) :: H) w := by refine sb_from ?_ hs; repeat constructor
  obtain ⟨g1, q1, e⟩ := hs.b0.own_some (by decide)
  cases e
  obtain ⟨g3, q3, e⟩ := hs.b1.own_some (by decide)
  cases e
  go_wp2_with (first | ((with_reducible refine isl ?_); first | ((with_reducible apply ldx); exact rfl; exact rfl; exact rfl; (first | exact hs.b0 | exact hs.b1 | exact hs.b2 | exact hs.b3 | exact hs.b4 | exact hs.b5 | exact hs.b6); exact rfl; kernel_rfl) | ((with_reducible apply ldo hs.b0); exact rfl; exact rfl; exact rfl; (first | exact rfl | exact ints_get (by omega)); kernel_rfl) | ((with_reducible apply ldo hs.b1); exact rfl; exact rfl; exact rfl; (first | exact rfl | exact ints_get (by omega)); kernel_rfl) | ((with_reducible apply stx); exact rfl; exact rfl; exact rfl; (first | exact hs.b0 | exact hs.b1 | exact hs.b2 | exact hs.b3 | exact hs.b4 | exact hs.b5 | exact hs.b6); exact rfl; exact rfl; exact rfl; kernel_rfl; exact rfl; clear hs; intro w hs) | ((with_reducible apply stcx); exact rfl; exact rfl; exact rfl; (first | exact hs.b0 | exact hs.b1 | exact hs.b2 | exact hs.b3 | exact hs.b4 | exact hs.b5 | exact hs.b6); exact rfl; exact rfl; kernel_rfl; exact rfl; clear hs; intro w hs) | ((with_reducible apply sto hs.b0); exact rfl; exact rfl; exact rfl; exact rfl; exact rfl; (first | exact rfl | exact ints_some (by omega)); kernel_rfl; exact rfl; clear hs; intro w hs) | ((with_reducible apply sto hs.b1); exact rfl; exact rfl; exact rfl; exact rfl; exact rfl; (first | exact rfl | exact ints_some (by omega)); kernel_rfl; exact rfl; clear hs; intro w hs) | ((with_reducible refine wrap hs ?_); clear hs; intro w hs) | ((with_reducible refine wrapn hs ?_); clear hs; intro w hs) | ((with_reducible refine wrapd hs ?_); clear hs; intro w hs)))
  go_ret
  exact ⟨rfl, hs.drop.drop.drop.drop.drop.drop.drop⟩
end Go.Proofs.Ytcheljogpffabaa
