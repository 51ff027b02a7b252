/- Law 04: Feed, taken case by case. -/
import Derived.Test.YtojgdpccjlgmiaaK9
import Derived.Deep.Cut
import Derived.Deep.CutRange
import Derived.Deep.DeepCutAuto
namespace Go.Proofs.Ytojgdpccjlgmiaa
open Go.RowKit Go.Mem Go.Parse
variable {W w : World} {H : List HProp}
theorem row45 : rowTy Try.prog 45 14 = true := by kernel_rfl
theorem one44 : oneTy Try.prog 44 = true := by kernel_rfl
def fns : List Value := [.func (.func 15) #[] #[], .func (.func 16) #[] #[], .func (.func 16) #[] #[], .func (.func 17) #[] #[], .func (.func 17) #[] #[], .func (.func 17) #[] #[], .func (.func 18) #[] #[], .func (.func 19) #[] #[], .func (.func 19) #[] #[], .func (.func 19) #[] #[], .func (.func 20) #[] #[], .func (.func 20) #[] #[], .func (.func 21) #[] #[], .func (.func 20) #[] #[]]
attribute [local irreducible] World.setCell World.setCells World.alloc World.drew World.drewN Calls sat cel own blk old wpQuiet wpList pm values digit next acs
variable {b : Nat} {st pr : Int} {L : PL} {I T : List Int} {ov : Bool} {p : Ps} {H : List HProp}
attribute [local irreducible] Any
theorem any_no {r : Int} (hl : lead r = none) (ok : p.ok) (hs : sat W (prs b p :: H) w) : Calls Try.prog 14 #[.pointer (some ⟨b, 0, none⟩), .int .i32 r] w fun e w' => e = .returned (.tuple #[.slice none 0 0, .bool false]) ∧ sat W (prs b p :: H) w' := by
  refine (anywhere14 ok hs).mono fun e w' h => ?_
  unfold Any at h
  rw [hl] at h
  exact h
theorem any_yes {r : Int} {s : Nat} (hl : lead r = some s) {q : Ps} {X : List Ac} (hX : feed1 p r = (q, X)) (ok : p.ok) (hs : sat W (prs b p :: H) w) : Calls Try.prog 14 #[.pointer (some ⟨b, 0, none⟩), .int .i32 r] w fun e w' => ∃ a c, e = .returned (.tuple #[.slice a X.length c, .bool true]) ∧ sat W (acs (.slice a X.length c) X :: prs b q :: H) w' := by
  refine (anywhere14 ok hs).mono fun e w' h => ?_
  unfold Any at h
  unfold feed1 at hX
  rw [hl] at h hX
  cases hX
  exact h
theorem ground_acts {r : Int} {v : Value} (hs : sat W (prs b p :: H) w) : Calls Try.prog 15 #[v, .int .i32 r] w (Acts W H b (p, if r < 32 then exec r else prnt r)) := by
  refine (ground15 hs).mono fun e w' h => ?_
  obtain ⟨a, c, he, hs⟩ := h
  subst he
  have hl : (if r < 32 then exec r else prnt r).length = 1 := by split <;> rfl
  refine ⟨a, c, ?_, ?_⟩
  · dsimp only; rw [hl]
  · dsimp only; rw [hl]; exact hs
theorem nothing_acts {r : Int} {v : Value} (hs : sat W (prs b p :: H) w) : Calls Try.prog 20 #[v, .int .i32 r] w (Acts W H b (p, [])) := by
  refine (nothing20 hs).mono fun e w' h => ?_
  obtain ⟨he, hs⟩ := h
  subst he
  exact Acts.none hs
theorem feed_nil {r : Int} (hs : sat W H w) : Calls Try.prog 8 #[.pointer none, .int .i32 r] w fun e w' => e = .returned (.slice none 0 0) ∧ sat W H w' := by
  go_enter Try.func8, Try.ntmps8
  go_wp2_with (first | ((with_reducible refine isl ?_); first | ((with_reducible refine wrap hs ?_); clear hs; intro w hs) | ((with_reducible refine wrapn hs ?_); clear hs; intro w hs) | ((with_reducible refine wrapd hs ?_); clear hs; intro w hs)))
  go_ret
  exact ⟨rfl, hs⟩
theorem feed_some {r : Int} {s : Nat} (h0 : 0 ≤ r) (h1 : r < 1114112) (hl : lead r = some s) (ok : p.ok) (hs : sat W (prs b p :: H) w) : Calls Try.prog 8 #[.pointer (some ⟨b, 0, none⟩), .int .i32 r] w (Acts W H b (feed1 p r)) := by
  obtain ⟨q, X, hX⟩ : ∃ q X, feed1 p r = (q, X) := ⟨_, _, rfl⟩
  have HA := Lib.hid (fun (H : List HProp) (w : World) (hs : sat W (prs b p :: H) w) => any_yes hl hX ok hs)
  rw [hX]
  clear hl ok hX
  go_enter Try.func8, Try.ntmps8
  go_wp2_with (first | (go_at_call 14; refine (HA.out _ _ hs).mono ?_; clear hs; rintro e w ⟨a, c, rfl, hs⟩) | ((with_reducible refine isl ?_); first | ((with_reducible refine wrap hs ?_); clear hs; intro w hs) | ((with_reducible refine wrapn hs ?_); clear hs; intro w hs) | ((with_reducible refine wrapd hs ?_); clear hs; intro w hs)))
  go_ret
  exact ⟨_, _, rfl, hs⟩
set_option maxHeartbeats 1000000 in
theorem feed_0_in {r : Int} (h0 : 0 ≤ r) (h1 : r < 1114112) (hl : lead r = none) (h127 : (r == 127) = false) (hk : p.st = 0) (h160 : r < 160) (ok : p.ok) (hs : sat W (prs b p :: H) w) : Calls Try.prog 8 #[.pointer (some ⟨b, 0, none⟩), .int .i32 r] w (Acts W H b ((p, if r < 32 then exec r else prnt r))) := by
  have HA := Lib.hid (fun (H : List HProp) (w : World) (hs : sat W (prs b p :: H) w) => any_no (r := r) hl ok hs)
  obtain ⟨nI, hI⟩ : ∃ n, p.inter.length = n := ⟨_, rfl⟩
  obtain ⟨nT, hT⟩ : ∃ n, p.text.length = n := ⟨_, rfl⟩
  have HL := Lib.hid ok.par.1
  have HI := Lib.hid hI
  have HT := Lib.hid hT
  have HOK := Lib.hid ok
  have HK : Hid ((p.st : Int) = 0) := Lib.hid (by rw [hk]; rfl)
  have HST := Lib.hid hk
  obtain ⟨q, X, hX⟩ : ∃ q X, (p, if r < 32 then exec r else prnt r) = (q, X) := ⟨_, _, rfl⟩
  rw [hX]
  have HF : Hid (∀ (H : List HProp) (w : World) (aI aT : Option Addr) (cI cT : Nat), sat W (cel b 40 (pm (.int .u8 0) (.int .i32 p.pr) p.par [.slice aI nI cI, .bool p.over, .slice aT nT cT]) :: own 21 1 (.slice aI nI cI) nI (runes p.inter) :: own 21 1 (.slice aT nT cT) nT (runes p.text) :: H) w → Calls Try.prog 15 #[.pointer (some ⟨b, 0, none⟩), .int .i32 r] w (Acts W H b (q, X))) := Lib.hid fun H w aI aT cI cT hs => by
    replace hs : sat W (prs b p :: H) w := sat.prs_close hI hT (by rw [HK.out]; exact hs)
    rw [← hX]
    exact ground_acts hs
  clear hl ok hI hT hk hX
  go_enter Try.func8, Try.ntmps8
  go_wp2_with (first | (go_at_call 14; refine (HA.out _ _ hs).mono ?_; clear hs; rintro e w ⟨rfl, hs⟩; obtain ⟨aI, cI, aT, cT, hs⟩ := sat.prs_open HI.out HT.out hs; rw [HK.out] at hs) | (go_at_call 15; refine (HF.out _ _ _ _ _ _ (by (apply sk_from (hs := hs); repeat constructor))).mono ?_; clear hs; rintro e w ⟨aX, cX, rfl, hs⟩) | ((with_reducible refine isl ?_); first | ((with_reducible apply stsw hs.b0); exact rfl; exact rfl; exact rfl; exact rfl; exact row45; exact rfl; exact rfl; exact rfl; clear hs; intro w hs) | ((with_reducible apply ld hs.b0); exact rfl; exact rfl; exact rfl; exact pm_c0; exact one5) | ((with_reducible apply ld hs.b0); exact rfl; exact rfl; exact rfl; exact pm_c1; exact one21) | ((with_reducible apply ld hs.b0); exact rfl; exact rfl; exact rfl; exact pm_c36 HL.out; exact one22) | ((with_reducible apply ld hs.b0); exact rfl; exact rfl; exact rfl; exact pm_c37 HL.out; exact one4) | ((with_reducible apply ld hs.b0); exact rfl; exact rfl; exact rfl; exact pm_c38 HL.out; exact one22) | ((with_reducible apply ld hs.b1); exact rfl; exact rfl; exact rfl; exact pm_c0; exact one5) | ((with_reducible apply ld hs.b1); exact rfl; exact rfl; exact rfl; exact pm_c1; exact one21) | ((with_reducible apply ld hs.b1); exact rfl; exact rfl; exact rfl; exact pm_c36 HL.out; exact one22) | ((with_reducible apply ld hs.b1); exact rfl; exact rfl; exact rfl; exact pm_c37 HL.out; exact one4) | ((with_reducible apply ld hs.b1); exact rfl; exact rfl; exact rfl; exact pm_c38 HL.out; exact one22) | ((with_reducible apply ld hs.b0); exact rfl; exact rfl; exact rfl; exact rfl; exact one44) | ((with_reducible apply ld hs.b1); exact rfl; exact rfl; exact rfl; exact rfl; exact one44) | ((with_reducible refine wrap hs ?_); clear hs; (first | generalize w.heap.size = z7); intro w hs) | ((with_reducible refine wrap hs ?_); clear hs; intro w hs) | ((with_reducible refine wrapn hs ?_); clear hs; intro w hs) | ((with_reducible refine wrapd hs ?_); clear hs; intro w hs)))
  go_ret
  exact ⟨_, _, rfl, by (refine sb_from ?_ hs; repeat constructor)⟩
set_option maxHeartbeats 1000000 in
theorem feed_1_in {r : Int} (h0 : 0 ≤ r) (h1 : r < 1114112) (hl : lead r = none) (h127 : (r == 127) = false) (hk : p.st = 1) (h160 : r < 160) (ok : p.ok) (hs : sat W (prs b p :: H) w) : Calls Try.prog 8 #[.pointer (some ⟨b, 0, none⟩), .int .i32 r] w (Acts W H b (escape p r)) := by
  have HA := Lib.hid (fun (H : List HProp) (w : World) (hs : sat W (prs b p :: H) w) => any_no (r := r) hl ok hs)
  obtain ⟨nI, hI⟩ : ∃ n, p.inter.length = n := ⟨_, rfl⟩
  obtain ⟨nT, hT⟩ : ∃ n, p.text.length = n := ⟨_, rfl⟩
  have HL := Lib.hid ok.par.1
  have HI := Lib.hid hI
  have HT := Lib.hid hT
  have HOK := Lib.hid ok
  have HK : Hid ((p.st : Int) = 1) := Lib.hid (by rw [hk]; rfl)
  have HST := Lib.hid hk
  obtain ⟨q, X, hX⟩ : ∃ q X, escape p r = (q, X) := ⟨_, _, rfl⟩
  rw [hX]
  have HF : Hid (∀ (H : List HProp) (w : World) (aI aT : Option Addr) (cI cT : Nat), sat W (cel b 40 (pm (.int .u8 1) (.int .i32 p.pr) p.par [.slice aI nI cI, .bool p.over, .slice aT nT cT]) :: own 21 1 (.slice aI nI cI) nI (runes p.inter) :: own 21 1 (.slice aT nT cT) nT (runes p.text) :: H) w → Calls Try.prog 16 #[.pointer (some ⟨b, 0, none⟩), .int .i32 r] w (Acts W H b (q, X))) := Lib.hid fun H w aI aT cI cT hs => by
    replace hs : sat W (prs b p :: H) w := sat.prs_close hI hT (by rw [HK.out]; exact hs)
    rw [← hX]
    exact escape16 (.inl hk) ok hs
  clear hl ok hI hT hk hX
  go_enter Try.func8, Try.ntmps8
  go_wp2_with (first | (go_at_call 14; refine (HA.out _ _ hs).mono ?_; clear hs; rintro e w ⟨rfl, hs⟩; obtain ⟨aI, cI, aT, cT, hs⟩ := sat.prs_open HI.out HT.out hs; rw [HK.out] at hs) | (go_at_call 16; refine (HF.out _ _ _ _ _ _ (by (apply sk_from (hs := hs); repeat constructor))).mono ?_; clear hs; rintro e w ⟨aX, cX, rfl, hs⟩) | ((with_reducible refine isl ?_); first | ((with_reducible apply stsw hs.b0); exact rfl; exact rfl; exact rfl; exact rfl; exact row45; exact rfl; exact rfl; exact rfl; clear hs; intro w hs) | ((with_reducible apply ld hs.b0); exact rfl; exact rfl; exact rfl; exact pm_c0; exact one5) | ((with_reducible apply ld hs.b0); exact rfl; exact rfl; exact rfl; exact pm_c1; exact one21) | ((with_reducible apply ld hs.b0); exact rfl; exact rfl; exact rfl; exact pm_c36 HL.out; exact one22) | ((with_reducible apply ld hs.b0); exact rfl; exact rfl; exact rfl; exact pm_c37 HL.out; exact one4) | ((with_reducible apply ld hs.b0); exact rfl; exact rfl; exact rfl; exact pm_c38 HL.out; exact one22) | ((with_reducible apply ld hs.b1); exact rfl; exact rfl; exact rfl; exact pm_c0; exact one5) | ((with_reducible apply ld hs.b1); exact rfl; exact rfl; exact rfl; exact pm_c1; exact one21) | ((with_reducible apply ld hs.b1); exact rfl; exact rfl; exact rfl; exact pm_c36 HL.out; exact one22) | ((with_reducible apply ld hs.b1); exact rfl; exact rfl; exact rfl; exact pm_c37 HL.out; exact one4) | ((with_reducible apply ld hs.b1); exact rfl; exact rfl; exact rfl; exact pm_c38 HL.out; exact one22) | ((with_reducible apply ld hs.b0); exact rfl; exact rfl; exact rfl; exact rfl; exact one44) | ((with_reducible apply ld hs.b1); exact rfl; exact rfl; exact rfl; exact rfl; exact one44) | ((with_reducible refine wrap hs ?_); clear hs; (first | generalize w.heap.size = z7); intro w hs) | ((with_reducible refine wrap hs ?_); clear hs; intro w hs) | ((with_reducible refine wrapn hs ?_); clear hs; intro w hs) | ((with_reducible refine wrapd hs ?_); clear hs; intro w hs)))
  go_ret
  exact ⟨_, _, rfl, by (refine sb_from ?_ hs; repeat constructor)⟩
set_option maxHeartbeats 1000000 in
theorem feed_2_in {r : Int} (h0 : 0 ≤ r) (h1 : r < 1114112) (hl : lead r = none) (h127 : (r == 127) = false) (hk : p.st = 2) (h160 : r < 160) (ok : p.ok) (hs : sat W (prs b p :: H) w) : Calls Try.prog 8 #[.pointer (some ⟨b, 0, none⟩), .int .i32 r] w (Acts W H b (escape p r)) := by
  have HA := Lib.hid (fun (H : List HProp) (w : World) (hs : sat W (prs b p :: H) w) => any_no (r := r) hl ok hs)
  obtain ⟨nI, hI⟩ : ∃ n, p.inter.length = n := ⟨_, rfl⟩
  obtain ⟨nT, hT⟩ : ∃ n, p.text.length = n := ⟨_, rfl⟩
  have HL := Lib.hid ok.par.1
  have HI := Lib.hid hI
  have HT := Lib.hid hT
  have HOK := Lib.hid ok
  have HK : Hid ((p.st : Int) = 2) := Lib.hid (by rw [hk]; rfl)
  have HST := Lib.hid hk
  obtain ⟨q, X, hX⟩ : ∃ q X, escape p r = (q, X) := ⟨_, _, rfl⟩
  rw [hX]
  have HF : Hid (∀ (H : List HProp) (w : World) (aI aT : Option Addr) (cI cT : Nat), sat W (cel b 40 (pm (.int .u8 2) (.int .i32 p.pr) p.par [.slice aI nI cI, .bool p.over, .slice aT nT cT]) :: own 21 1 (.slice aI nI cI) nI (runes p.inter) :: own 21 1 (.slice aT nT cT) nT (runes p.text) :: H) w → Calls Try.prog 16 #[.pointer (some ⟨b, 0, none⟩), .int .i32 r] w (Acts W H b (q, X))) := Lib.hid fun H w aI aT cI cT hs => by
    replace hs : sat W (prs b p :: H) w := sat.prs_close hI hT (by rw [HK.out]; exact hs)
    rw [← hX]
    exact escape16 (.inr hk) ok hs
  clear hl ok hI hT hk hX
  go_enter Try.func8, Try.ntmps8
  go_wp2_with (first | (go_at_call 14; refine (HA.out _ _ hs).mono ?_; clear hs; rintro e w ⟨rfl, hs⟩; obtain ⟨aI, cI, aT, cT, hs⟩ := sat.prs_open HI.out HT.out hs; rw [HK.out] at hs) | (go_at_call 16; refine (HF.out _ _ _ _ _ _ (by (apply sk_from (hs := hs); repeat constructor))).mono ?_; clear hs; rintro e w ⟨aX, cX, rfl, hs⟩) | ((with_reducible refine isl ?_); first | ((with_reducible apply stsw hs.b0); exact rfl; exact rfl; exact rfl; exact rfl; exact row45; exact rfl; exact rfl; exact rfl; clear hs; intro w hs) | ((with_reducible apply ld hs.b0); exact rfl; exact rfl; exact rfl; exact pm_c0; exact one5) | ((with_reducible apply ld hs.b0); exact rfl; exact rfl; exact rfl; exact pm_c1; exact one21) | ((with_reducible apply ld hs.b0); exact rfl; exact rfl; exact rfl; exact pm_c36 HL.out; exact one22) | ((with_reducible apply ld hs.b0); exact rfl; exact rfl; exact rfl; exact pm_c37 HL.out; exact one4) | ((with_reducible apply ld hs.b0); exact rfl; exact rfl; exact rfl; exact pm_c38 HL.out; exact one22) | ((with_reducible apply ld hs.b1); exact rfl; exact rfl; exact rfl; exact pm_c0; exact one5) | ((with_reducible apply ld hs.b1); exact rfl; exact rfl; exact rfl; exact pm_c1; exact one21) | ((with_reducible apply ld hs.b1); exact rfl; exact rfl; exact rfl; exact pm_c36 HL.out; exact one22) | ((with_reducible apply ld hs.b1); exact rfl; exact rfl; exact rfl; exact pm_c37 HL.out; exact one4) | ((with_reducible apply ld hs.b1); exact rfl; exact rfl; exact rfl; exact pm_c38 HL.out; exact one22) | ((with_reducible apply ld hs.b0); exact rfl; exact rfl; exact rfl; exact rfl; exact one44) | ((with_reducible apply ld hs.b1); exact rfl; exact rfl; exact rfl; exact rfl; exact one44) | ((with_reducible refine wrap hs ?_); clear hs; (first | generalize w.heap.size = z7); intro w hs) | ((with_reducible refine wrap hs ?_); clear hs; intro w hs) | ((with_reducible refine wrapn hs ?_); clear hs; intro w hs) | ((with_reducible refine wrapd hs ?_); clear hs; intro w hs)))
  go_ret
  exact ⟨_, _, rfl, by (refine sb_from ?_ hs; repeat constructor)⟩
set_option maxHeartbeats 1000000 in
theorem feed_3_in {r : Int} (h0 : 0 ≤ r) (h1 : r < 1114112) (hl : lead r = none) (h127 : (r == 127) = false) (hk : p.st = 3) (h160 : r < 160) (ok : p.ok) (hs : sat W (prs b p :: H) w) : Calls Try.prog 8 #[.pointer (some ⟨b, 0, none⟩), .int .i32 r] w (Acts W H b ((if r < 32 then (p, exec r) else sequence p r 4 3 6 0))) := by
  have HA := Lib.hid (fun (H : List HProp) (w : World) (hs : sat W (prs b p :: H) w) => any_no (r := r) hl ok hs)
  obtain ⟨nI, hI⟩ : ∃ n, p.inter.length = n := ⟨_, rfl⟩
  obtain ⟨nT, hT⟩ : ∃ n, p.text.length = n := ⟨_, rfl⟩
  have HL := Lib.hid ok.par.1
  have HI := Lib.hid hI
  have HT := Lib.hid hT
  have HOK := Lib.hid ok
  have HK : Hid ((p.st : Int) = 3) := Lib.hid (by rw [hk]; rfl)
  have HST := Lib.hid hk
  obtain ⟨q, X, hX⟩ : ∃ q X, (if r < 32 then (p, exec r) else sequence p r 4 3 6 0) = (q, X) := ⟨_, _, rfl⟩
  rw [hX]
  have HF : Hid (∀ (H : List HProp) (w : World) (aI aT : Option Addr) (cI cT : Nat), sat W (cel b 40 (pm (.int .u8 3) (.int .i32 p.pr) p.par [.slice aI nI cI, .bool p.over, .slice aT nT cT]) :: own 21 1 (.slice aI nI cI) nI (runes p.inter) :: own 21 1 (.slice aT nT cT) nT (runes p.text) :: H) w → Calls Try.prog 17 #[.pointer (some ⟨b, 0, none⟩), .int .i32 r] w (Acts W H b (q, X))) := Lib.hid fun H w aI aT cI cT hs => by
    replace hs : sat W (prs b p :: H) w := sat.prs_close hI hT (by rw [HK.out]; exact hs)
    rw [← hX]
    exact csi17 (by omega) ok hs
  clear hl ok hI hT hk hX
  go_enter Try.func8, Try.ntmps8
  go_wp2_with (first | (go_at_call 14; refine (HA.out _ _ hs).mono ?_; clear hs; rintro e w ⟨rfl, hs⟩; obtain ⟨aI, cI, aT, cT, hs⟩ := sat.prs_open HI.out HT.out hs; rw [HK.out] at hs) | (go_at_call 17; refine (HF.out _ _ _ _ _ _ (by (apply sk_from (hs := hs); repeat constructor))).mono ?_; clear hs; rintro e w ⟨aX, cX, rfl, hs⟩) | ((with_reducible refine isl ?_); first | ((with_reducible apply stsw hs.b0); exact rfl; exact rfl; exact rfl; exact rfl; exact row45; exact rfl; exact rfl; exact rfl; clear hs; intro w hs) | ((with_reducible apply ld hs.b0); exact rfl; exact rfl; exact rfl; exact pm_c0; exact one5) | ((with_reducible apply ld hs.b0); exact rfl; exact rfl; exact rfl; exact pm_c1; exact one21) | ((with_reducible apply ld hs.b0); exact rfl; exact rfl; exact rfl; exact pm_c36 HL.out; exact one22) | ((with_reducible apply ld hs.b0); exact rfl; exact rfl; exact rfl; exact pm_c37 HL.out; exact one4) | ((with_reducible apply ld hs.b0); exact rfl; exact rfl; exact rfl; exact pm_c38 HL.out; exact one22) | ((with_reducible apply ld hs.b1); exact rfl; exact rfl; exact rfl; exact pm_c0; exact one5) | ((with_reducible apply ld hs.b1); exact rfl; exact rfl; exact rfl; exact pm_c1; exact one21) | ((with_reducible apply ld hs.b1); exact rfl; exact rfl; exact rfl; exact pm_c36 HL.out; exact one22) | ((with_reducible apply ld hs.b1); exact rfl; exact rfl; exact rfl; exact pm_c37 HL.out; exact one4) | ((with_reducible apply ld hs.b1); exact rfl; exact rfl; exact rfl; exact pm_c38 HL.out; exact one22) | ((with_reducible apply ld hs.b0); exact rfl; exact rfl; exact rfl; exact rfl; exact one44) | ((with_reducible apply ld hs.b1); exact rfl; exact rfl; exact rfl; exact rfl; exact one44) | ((with_reducible refine wrap hs ?_); clear hs; (first | generalize w.heap.size = z7); intro w hs) | ((with_reducible refine wrap hs ?_); clear hs; intro w hs) | ((with_reducible refine wrapn hs ?_); clear hs; intro w hs) | ((with_reducible refine wrapd hs ?_); clear hs; intro w hs)))
  go_ret
  exact ⟨_, _, rfl, by (refine sb_from ?_ hs; repeat constructor)⟩
set_option maxHeartbeats 1000000 in
theorem feed_4_in {r : Int} (h0 : 0 ≤ r) (h1 : r < 1114112) (hl : lead r = none) (h127 : (r == 127) = false) (hk : p.st = 4) (h160 : r < 160) (ok : p.ok) (hs : sat W (prs b p :: H) w) : Calls Try.prog 8 #[.pointer (some ⟨b, 0, none⟩), .int .i32 r] w (Acts W H b ((if r < 32 then (p, exec r) else sequence p r 4 3 6 0))) := by
  have HA := Lib.hid (fun (H : List HProp) (w : World) (hs : sat W (prs b p :: H) w) => any_no (r := r) hl ok hs)
  obtain ⟨nI, hI⟩ : ∃ n, p.inter.length = n := ⟨_, rfl⟩
  obtain ⟨nT, hT⟩ : ∃ n, p.text.length = n := ⟨_, rfl⟩
  have HL := Lib.hid ok.par.1
  have HI := Lib.hid hI
  have HT := Lib.hid hT
  have HOK := Lib.hid ok
  have HK : Hid ((p.st : Int) = 4) := Lib.hid (by rw [hk]; rfl)
  have HST := Lib.hid hk
  obtain ⟨q, X, hX⟩ : ∃ q X, (if r < 32 then (p, exec r) else sequence p r 4 3 6 0) = (q, X) := ⟨_, _, rfl⟩
  rw [hX]
  have HF : Hid (∀ (H : List HProp) (w : World) (aI aT : Option Addr) (cI cT : Nat), sat W (cel b 40 (pm (.int .u8 4) (.int .i32 p.pr) p.par [.slice aI nI cI, .bool p.over, .slice aT nT cT]) :: own 21 1 (.slice aI nI cI) nI (runes p.inter) :: own 21 1 (.slice aT nT cT) nT (runes p.text) :: H) w → Calls Try.prog 17 #[.pointer (some ⟨b, 0, none⟩), .int .i32 r] w (Acts W H b (q, X))) := Lib.hid fun H w aI aT cI cT hs => by
    replace hs : sat W (prs b p :: H) w := sat.prs_close hI hT (by rw [HK.out]; exact hs)
    rw [← hX]
    exact csi17 (by omega) ok hs
  clear hl ok hI hT hk hX
  go_enter Try.func8, Try.ntmps8
  go_wp2_with (first | (go_at_call 14; refine (HA.out _ _ hs).mono ?_; clear hs; rintro e w ⟨rfl, hs⟩; obtain ⟨aI, cI, aT, cT, hs⟩ := sat.prs_open HI.out HT.out hs; rw [HK.out] at hs) | (go_at_call 17; refine (HF.out _ _ _ _ _ _ (by (apply sk_from (hs := hs); repeat constructor))).mono ?_; clear hs; rintro e w ⟨aX, cX, rfl, hs⟩) | ((with_reducible refine isl ?_); first | ((with_reducible apply stsw hs.b0); exact rfl; exact rfl; exact rfl; exact rfl; exact row45; exact rfl; exact rfl; exact rfl; clear hs; intro w hs) | ((with_reducible apply ld hs.b0); exact rfl; exact rfl; exact rfl; exact pm_c0; exact one5) | ((with_reducible apply ld hs.b0); exact rfl; exact rfl; exact rfl; exact pm_c1; exact one21) | ((with_reducible apply ld hs.b0); exact rfl; exact rfl; exact rfl; exact pm_c36 HL.out; exact one22) | ((with_reducible apply ld hs.b0); exact rfl; exact rfl; exact rfl; exact pm_c37 HL.out; exact one4) | ((with_reducible apply ld hs.b0); exact rfl; exact rfl; exact rfl; exact pm_c38 HL.out; exact one22) | ((with_reducible apply ld hs.b1); exact rfl; exact rfl; exact rfl; exact pm_c0; exact one5) | ((with_reducible apply ld hs.b1); exact rfl; exact rfl; exact rfl; exact pm_c1; exact one21) | ((with_reducible apply ld hs.b1); exact rfl; exact rfl; exact rfl; exact pm_c36 HL.out; exact one22) | ((with_reducible apply ld hs.b1); exact rfl; exact rfl; exact rfl; exact pm_c37 HL.out; exact one4) | ((with_reducible apply ld hs.b1); exact rfl; exact rfl; exact rfl; exact pm_c38 HL.out; exact one22) | ((with_reducible apply ld hs.b0); exact rfl; exact rfl; exact rfl; exact rfl; exact one44) | ((with_reducible apply ld hs.b1); exact rfl; exact rfl; exact rfl; exact rfl; exact one44) | ((with_reducible refine wrap hs ?_); clear hs; (first | generalize w.heap.size = z7); intro w hs) | ((with_reducible refine wrap hs ?_); clear hs; intro w hs) | ((with_reducible refine wrapn hs ?_); clear hs; intro w hs) | ((with_reducible refine wrapd hs ?_); clear hs; intro w hs)))
  go_ret
  exact ⟨_, _, rfl, by (refine sb_from ?_ hs; repeat constructor)⟩
set_option maxHeartbeats 1000000 in
theorem feed_5_in {r : Int} (h0 : 0 ≤ r) (h1 : r < 1114112) (hl : lead r = none) (h127 : (r == 127) = false) (hk : p.st = 5) (h160 : r < 160) (ok : p.ok) (hs : sat W (prs b p :: H) w) : Calls Try.prog 8 #[.pointer (some ⟨b, 0, none⟩), .int .i32 r] w (Acts W H b ((if r < 32 then (p, exec r) else sequence p r 4 3 6 0))) := by
  have HA := Lib.hid (fun (H : List HProp) (w : World) (hs : sat W (prs b p :: H) w) => any_no (r := r) hl ok hs)
  obtain ⟨nI, hI⟩ : ∃ n, p.inter.length = n := ⟨_, rfl⟩
  obtain ⟨nT, hT⟩ : ∃ n, p.text.length = n := ⟨_, rfl⟩
  have HL := Lib.hid ok.par.1
  have HI := Lib.hid hI
  have HT := Lib.hid hT
  have HOK := Lib.hid ok
  have HK : Hid ((p.st : Int) = 5) := Lib.hid (by rw [hk]; rfl)
  have HST := Lib.hid hk
  obtain ⟨q, X, hX⟩ : ∃ q X, (if r < 32 then (p, exec r) else sequence p r 4 3 6 0) = (q, X) := ⟨_, _, rfl⟩
  rw [hX]
  have HF : Hid (∀ (H : List HProp) (w : World) (aI aT : Option Addr) (cI cT : Nat), sat W (cel b 40 (pm (.int .u8 5) (.int .i32 p.pr) p.par [.slice aI nI cI, .bool p.over, .slice aT nT cT]) :: own 21 1 (.slice aI nI cI) nI (runes p.inter) :: own 21 1 (.slice aT nT cT) nT (runes p.text) :: H) w → Calls Try.prog 17 #[.pointer (some ⟨b, 0, none⟩), .int .i32 r] w (Acts W H b (q, X))) := Lib.hid fun H w aI aT cI cT hs => by
    replace hs : sat W (prs b p :: H) w := sat.prs_close hI hT (by rw [HK.out]; exact hs)
    rw [← hX]
    exact csi17 (by omega) ok hs
  clear hl ok hI hT hk hX
  go_enter Try.func8, Try.ntmps8
  go_wp2_with (first | (go_at_call 14; refine (HA.out _ _ hs).mono ?_; clear hs; rintro e w ⟨rfl, hs⟩; obtain ⟨aI, cI, aT, cT, hs⟩ := sat.prs_open HI.out HT.out hs; rw [HK.out] at hs) | (go_at_call 17; refine (HF.out _ _ _ _ _ _ (by (apply sk_from (hs := hs); repeat constructor))).mono ?_; clear hs; rintro e w ⟨aX, cX, rfl, hs⟩) | ((with_reducible refine isl ?_); first | ((with_reducible apply stsw hs.b0); exact rfl; exact rfl; exact rfl; exact rfl; exact row45; exact rfl; exact rfl; exact rfl; clear hs; intro w hs) | ((with_reducible apply ld hs.b0); exact rfl; exact rfl; exact rfl; exact pm_c0; exact one5) | ((with_reducible apply ld hs.b0); exact rfl; exact rfl; exact rfl; exact pm_c1; exact one21) | ((with_reducible apply ld hs.b0); exact rfl; exact rfl; exact rfl; exact pm_c36 HL.out; exact one22) | ((with_reducible apply ld hs.b0); exact rfl; exact rfl; exact rfl; exact pm_c37 HL.out; exact one4) | ((with_reducible apply ld hs.b0); exact rfl; exact rfl; exact rfl; exact pm_c38 HL.out; exact one22) | ((with_reducible apply ld hs.b1); exact rfl; exact rfl; exact rfl; exact pm_c0; exact one5) | ((with_reducible apply ld hs.b1); exact rfl; exact rfl; exact rfl; exact pm_c1; exact one21) | ((with_reducible apply ld hs.b1); exact rfl; exact rfl; exact rfl; exact pm_c36 HL.out; exact one22) | ((with_reducible apply ld hs.b1); exact rfl; exact rfl; exact rfl; exact pm_c37 HL.out; exact one4) | ((with_reducible apply ld hs.b1); exact rfl; exact rfl; exact rfl; exact pm_c38 HL.out; exact one22) | ((with_reducible apply ld hs.b0); exact rfl; exact rfl; exact rfl; exact rfl; exact one44) | ((with_reducible apply ld hs.b1); exact rfl; exact rfl; exact rfl; exact rfl; exact one44) | ((with_reducible refine wrap hs ?_); clear hs; (first | generalize w.heap.size = z7); intro w hs) | ((with_reducible refine wrap hs ?_); clear hs; intro w hs) | ((with_reducible refine wrapn hs ?_); clear hs; intro w hs) | ((with_reducible refine wrapd hs ?_); clear hs; intro w hs)))
  go_ret
  exact ⟨_, _, rfl, by (refine sb_from ?_ hs; repeat constructor)⟩
end Go.Proofs.Ytojgdpccjlgmiaa
