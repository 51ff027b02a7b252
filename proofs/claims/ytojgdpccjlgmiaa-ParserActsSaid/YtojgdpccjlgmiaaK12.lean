/- Law 04: Feed, taken case by case (further). -/
import Derived.Test.YtojgdpccjlgmiaaK11
namespace Go.Proofs.Ytojgdpccjlgmiaa
open Go.RowKit Go.Mem Go.Parse
variable {W w : World} {H : List HProp}
attribute [local irreducible] World.setCell World.setCells World.alloc World.drew World.drewN Calls sat cel own blk old wpQuiet wpList pm values digit next acs
variable {b : Nat} {st pr : Int} {L : PL} {I T : List Int} {ov : Bool} {p : Ps} {H : List HProp}
attribute [local irreducible] Any
set_option maxHeartbeats 1000000 in
theorem feed_0_in_hi {r : Int} (h0 : 0 ≤ r) (h1 : r < 1114112) (hl : lead r = none) (h127 : (r == 127) = false) (hk : p.st = 0) (h160 : 160 ≤ r) (ok : p.ok) (hs : sat W (prs b p :: H) w) : Calls Try.prog 8 #[.pointer (some ⟨b, 0, none⟩), .int .i32 r] w (Acts W H b ((p, if r < 32 then exec r else prnt r))) := by
  have HA := Lib.hid (fun (H : List HProp) (w : World) (hs : sat W (prs b p :: H) w) => any_no (r := r) hl ok hs)
  obtain ⟨nI, hI⟩ : ∃ n, p.inter.length = n := ⟨_, rfl⟩
  obtain ⟨nT, hT⟩ : ∃ n, p.text.length = n := ⟨_, rfl⟩
  have HL := Lib.hid ok.par.1
  have HI := Lib.hid hI
  have HT := Lib.hid hT
  have HOK := Lib.hid ok
  have HK : Hid ((p.st : Int) = 0) := Lib.hid (by rw [hk]; rfl)
  have HST := Lib.hid hk
  obtain ⟨q, X, hX⟩ : ∃ q X, (p, if r < 32 then exec r else prnt r) = (q, X) := ⟨_, _, rfl⟩
  rw [hX]
  have HF : Hid (∀ (H : List HProp) (w : World) (aI aT : Option Addr) (cI cT : Nat), sat W (cel b 40 (pm (.int .u8 0) (.int .i32 p.pr) p.par [.slice aI nI cI, .bool p.over, .slice aT nT cT]) :: own 21 1 (.slice aI nI cI) nI (runes p.inter) :: own 21 1 (.slice aT nT cT) nT (runes p.text) :: H) w → Calls Try.prog 15 #[.pointer (some ⟨b, 0, none⟩), .int .i32 r] w (Acts W H b (q, X))) := Lib.hid fun H w aI aT cI cT hs => by
    replace hs : sat W (prs b p :: H) w := sat.prs_close hI hT (by rw [HK.out]; exact hs)
    rw [← hX]
    exact ground_acts hs
  clear hl ok hI hT hk hX
  go_enter Try.func8, Try.ntmps8
  go_wp2_with (first | (go_at_call 14; refine (HA.out _ _ hs).mono ?_; clear hs; rintro e w ⟨rfl, hs⟩; obtain ⟨aI, cI, aT, cT, hs⟩ := sat.prs_open HI.out HT.out hs; rw [HK.out] at hs) | (go_at_call 15; refine (HF.out _ _ _ _ _ _ (by (apply sk_from (hs := hs); repeat constructor))).mono ?_; clear hs; rintro e w ⟨aX, cX, rfl, hs⟩) | ((with_reducible refine isl ?_); first | ((with_reducible apply stsw hs.b0); exact rfl; exact rfl; exact rfl; exact rfl; exact row45; exact rfl; exact rfl; exact rfl; clear hs; intro w hs) | ((with_reducible apply ld hs.b0); exact rfl; exact rfl; exact rfl; exact pm_c0; exact one5) | ((with_reducible apply ld hs.b0); exact rfl; exact rfl; exact rfl; exact pm_c1; exact one21) | ((with_reducible apply ld hs.b0); exact rfl; exact rfl; exact rfl; exact pm_c36 HL.out; exact one22) | ((with_reducible apply ld hs.b0); exact rfl; exact rfl; exact rfl; exact pm_c37 HL.out; exact one4) | ((with_reducible apply ld hs.b0); exact rfl; exact rfl; exact rfl; exact pm_c38 HL.out; exact one22) | ((with_reducible apply ld hs.b1); exact rfl; exact rfl; exact rfl; exact pm_c0; exact one5) | ((with_reducible apply ld hs.b1); exact rfl; exact rfl; exact rfl; exact pm_c1; exact one21) | ((with_reducible apply ld hs.b1); exact rfl; exact rfl; exact rfl; exact pm_c36 HL.out; exact one22) | ((with_reducible apply ld hs.b1); exact rfl; exact rfl; exact rfl; exact pm_c37 HL.out; exact one4) | ((with_reducible apply ld hs.b1); exact rfl; exact rfl; exact rfl; exact pm_c38 HL.out; exact one22) | ((with_reducible apply ld hs.b0); exact rfl; exact rfl; exact rfl; exact rfl; exact one44) | ((with_reducible apply ld hs.b1); exact rfl; exact rfl; exact rfl; exact rfl; exact one44) | ((with_reducible refine wrap hs ?_); clear hs; (first | generalize w.heap.size = z7); intro w hs) | ((with_reducible refine wrap hs ?_); clear hs; intro w hs) | ((with_reducible refine wrapn hs ?_); clear hs; intro w hs) | ((with_reducible refine wrapd hs ?_); clear hs; intro w hs)))
  go_ret
  exact ⟨_, _, rfl, by (refine sb_from ?_ hs; repeat constructor)⟩
set_option maxHeartbeats 1000000 in
theorem feed_12_in_hi {r : Int} (h0 : 0 ≤ r) (h1 : r < 1114112) (hl : lead r = none) (h127 : (r == 127) = false) (hk : p.st = 12) (h160 : 160 ≤ r) (ok : p.ok) (hs : sat W (prs b p :: H) w) : Calls Try.prog 8 #[.pointer (some ⟨b, 0, none⟩), .int .i32 r] w (Acts W H b (osc p r)) := by
  have HA := Lib.hid (fun (H : List HProp) (w : World) (hs : sat W (prs b p :: H) w) => any_no (r := r) hl ok hs)
  obtain ⟨nI, hI⟩ : ∃ n, p.inter.length = n := ⟨_, rfl⟩
  obtain ⟨nT, hT⟩ : ∃ n, p.text.length = n := ⟨_, rfl⟩
  have HL := Lib.hid ok.par.1
  have HI := Lib.hid hI
  have HT := Lib.hid hT
  have HOK := Lib.hid ok
  have HK : Hid ((p.st : Int) = 12) := Lib.hid (by rw [hk]; rfl)
  have HST := Lib.hid hk
  obtain ⟨q, X, hX⟩ : ∃ q X, osc p r = (q, X) := ⟨_, _, rfl⟩
  rw [hX]
  have HF : Hid (∀ (H : List HProp) (w : World) (aI aT : Option Addr) (cI cT : Nat), sat W (cel b 40 (pm (.int .u8 12) (.int .i32 p.pr) p.par [.slice aI nI cI, .bool p.over, .slice aT nT cT]) :: own 21 1 (.slice aI nI cI) nI (runes p.inter) :: own 21 1 (.slice aT nT cT) nT (runes p.text) :: H) w → Calls Try.prog 21 #[.pointer (some ⟨b, 0, none⟩), .int .i32 r] w (Acts W H b (q, X))) := Lib.hid fun H w aI aT cI cT hs => by
    replace hs : sat W (prs b p :: H) w := sat.prs_close hI hT (by rw [HK.out]; exact hs)
    rw [← hX]
    exact osc21 ok hs
  clear hl ok hI hT hk hX
  go_enter Try.func8, Try.ntmps8
  go_wp2_with (first | (go_at_call 14; refine (HA.out _ _ hs).mono ?_; clear hs; rintro e w ⟨rfl, hs⟩; obtain ⟨aI, cI, aT, cT, hs⟩ := sat.prs_open HI.out HT.out hs; rw [HK.out] at hs) | (go_at_call 21; refine (HF.out _ _ _ _ _ _ (by (apply sk_from (hs := hs); repeat constructor))).mono ?_; clear hs; rintro e w ⟨aX, cX, rfl, hs⟩) | ((with_reducible refine isl ?_); first | ((with_reducible apply stsw hs.b0); exact rfl; exact rfl; exact rfl; exact rfl; exact row45; exact rfl; exact rfl; exact rfl; clear hs; intro w hs) | ((with_reducible apply ld hs.b0); exact rfl; exact rfl; exact rfl; exact pm_c0; exact one5) | ((with_reducible apply ld hs.b0); exact rfl; exact rfl; exact rfl; exact pm_c1; exact one21) | ((with_reducible apply ld hs.b0); exact rfl; exact rfl; exact rfl; exact pm_c36 HL.out; exact one22) | ((with_reducible apply ld hs.b0); exact rfl; exact rfl; exact rfl; exact pm_c37 HL.out; exact one4) | ((with_reducible apply ld hs.b0); exact rfl; exact rfl; exact rfl; exact pm_c38 HL.out; exact one22) | ((with_reducible apply ld hs.b1); exact rfl; exact rfl; exact rfl; exact pm_c0; exact one5) | ((with_reducible apply ld hs.b1); exact rfl; exact rfl; exact rfl; exact pm_c1; exact one21) | ((with_reducible apply ld hs.b1); exact rfl; exact rfl; exact rfl; exact pm_c36 HL.out; exact one22) | ((with_reducible apply ld hs.b1); exact rfl; exact rfl; exact rfl; exact pm_c37 HL.out; exact one4) | ((with_reducible apply ld hs.b1); exact rfl; exact rfl; exact rfl; exact pm_c38 HL.out; exact one22) | ((with_reducible apply ld hs.b0); exact rfl; exact rfl; exact rfl; exact rfl; exact one44) | ((with_reducible apply ld hs.b1); exact rfl; exact rfl; exact rfl; exact rfl; exact one44) | ((with_reducible refine wrap hs ?_); clear hs; (first | generalize w.heap.size = z7); intro w hs) | ((with_reducible refine wrap hs ?_); clear hs; intro w hs) | ((with_reducible refine wrapn hs ?_); clear hs; intro w hs) | ((with_reducible refine wrapd hs ?_); clear hs; intro w hs)))
  go_ret
  exact ⟨_, _, rfl, by (refine sb_from ?_ hs; repeat constructor)⟩
set_option maxHeartbeats 1000000 in
theorem feed_0_neg {r : Int} (h0 : r < 0) (hl : lead 65533 = none)  (hk : p.st = 0)  (ok : p.ok) (hs : sat W (prs b p :: H) w) : Calls Try.prog 8 #[.pointer (some ⟨b, 0, none⟩), .int .i32 r] w (Acts W H b ((p, if 65533 < 32 then exec 65533 else prnt 65533))) := by
  have HA := Lib.hid (fun (H : List HProp) (w : World) (hs : sat W (prs b p :: H) w) => any_no (r := 65533) hl ok hs)
  obtain ⟨nI, hI⟩ : ∃ n, p.inter.length = n := ⟨_, rfl⟩
  obtain ⟨nT, hT⟩ : ∃ n, p.text.length = n := ⟨_, rfl⟩
  have HL := Lib.hid ok.par.1
  have HI := Lib.hid hI
  have HT := Lib.hid hT
  have HOK := Lib.hid ok
  have HK : Hid ((p.st : Int) = 0) := Lib.hid (by rw [hk]; rfl)
  have HST := Lib.hid hk
  obtain ⟨q, X, hX⟩ : ∃ q X, (p, if 65533 < 32 then exec 65533 else prnt 65533) = (q, X) := ⟨_, _, rfl⟩
  rw [hX]
  have HF : Hid (∀ (H : List HProp) (w : World) (aI aT : Option Addr) (cI cT : Nat), sat W (cel b 40 (pm (.int .u8 0) (.int .i32 p.pr) p.par [.slice aI nI cI, .bool p.over, .slice aT nT cT]) :: own 21 1 (.slice aI nI cI) nI (runes p.inter) :: own 21 1 (.slice aT nT cT) nT (runes p.text) :: H) w → Calls Try.prog 15 #[.pointer (some ⟨b, 0, none⟩), .int .i32 65533] w (Acts W H b (q, X))) := Lib.hid fun H w aI aT cI cT hs => by
    replace hs : sat W (prs b p :: H) w := sat.prs_close hI hT (by rw [HK.out]; exact hs)
    rw [← hX]
    exact ground_acts hs
  clear hl ok hI hT hk hX
  go_enter Try.func8, Try.ntmps8
  go_wp2_with (first | (go_at_call 14; refine (HA.out _ _ hs).mono ?_; clear hs; rintro e w ⟨rfl, hs⟩; obtain ⟨aI, cI, aT, cT, hs⟩ := sat.prs_open HI.out HT.out hs; rw [HK.out] at hs) | (go_at_call 15; refine (HF.out _ _ _ _ _ _ (by (apply sk_from (hs := hs); repeat constructor))).mono ?_; clear hs; rintro e w ⟨aX, cX, rfl, hs⟩) | ((with_reducible refine isl ?_); first | ((with_reducible apply stsw hs.b0); exact rfl; exact rfl; exact rfl; exact rfl; exact row45; exact rfl; exact rfl; exact rfl; clear hs; intro w hs) | ((with_reducible apply ld hs.b0); exact rfl; exact rfl; exact rfl; exact pm_c0; exact one5) | ((with_reducible apply ld hs.b0); exact rfl; exact rfl; exact rfl; exact pm_c1; exact one21) | ((with_reducible apply ld hs.b0); exact rfl; exact rfl; exact rfl; exact pm_c36 HL.out; exact one22) | ((with_reducible apply ld hs.b0); exact rfl; exact rfl; exact rfl; exact pm_c37 HL.out; exact one4) | ((with_reducible apply ld hs.b0); exact rfl; exact rfl; exact rfl; exact pm_c38 HL.out; exact one22) | ((with_reducible apply ld hs.b1); exact rfl; exact rfl; exact rfl; exact pm_c0; exact one5) | ((with_reducible apply ld hs.b1); exact rfl; exact rfl; exact rfl; exact pm_c1; exact one21) | ((with_reducible apply ld hs.b1); exact rfl; exact rfl; exact rfl; exact pm_c36 HL.out; exact one22) | ((with_reducible apply ld hs.b1); exact rfl; exact rfl; exact rfl; exact pm_c37 HL.out; exact one4) | ((with_reducible apply ld hs.b1); exact rfl; exact rfl; exact rfl; exact pm_c38 HL.out; exact one22) | ((with_reducible apply ld hs.b0); exact rfl; exact rfl; exact rfl; exact rfl; exact one44) | ((with_reducible apply ld hs.b1); exact rfl; exact rfl; exact rfl; exact rfl; exact one44) | ((with_reducible refine wrap hs ?_); clear hs; (first | generalize w.heap.size = z7); intro w hs) | ((with_reducible refine wrap hs ?_); clear hs; intro w hs) | ((with_reducible refine wrapn hs ?_); clear hs; intro w hs) | ((with_reducible refine wrapd hs ?_); clear hs; intro w hs)))
  go_ret
  exact ⟨_, _, rfl, by (refine sb_from ?_ hs; repeat constructor)⟩
set_option maxHeartbeats 1000000 in
theorem feed_12_neg {r : Int} (h0 : r < 0) (hl : lead 65533 = none)  (hk : p.st = 12)  (ok : p.ok) (hs : sat W (prs b p :: H) w) : Calls Try.prog 8 #[.pointer (some ⟨b, 0, none⟩), .int .i32 r] w (Acts W H b (osc p 65533)) := by
  have HA := Lib.hid (fun (H : List HProp) (w : World) (hs : sat W (prs b p :: H) w) => any_no (r := 65533) hl ok hs)
  obtain ⟨nI, hI⟩ : ∃ n, p.inter.length = n := ⟨_, rfl⟩
  obtain ⟨nT, hT⟩ : ∃ n, p.text.length = n := ⟨_, rfl⟩
  have HL := Lib.hid ok.par.1
  have HI := Lib.hid hI
  have HT := Lib.hid hT
  have HOK := Lib.hid ok
  have HK : Hid ((p.st : Int) = 12) := Lib.hid (by rw [hk]; rfl)
  have HST := Lib.hid hk
  obtain ⟨q, X, hX⟩ : ∃ q X, osc p 65533 = (q, X) := ⟨_, _, rfl⟩
  rw [hX]
  have HF : Hid (∀ (H : List HProp) (w : World) (aI aT : Option Addr) (cI cT : Nat), sat W (cel b 40 (pm (.int .u8 12) (.int .i32 p.pr) p.par [.slice aI nI cI, .bool p.over, .slice aT nT cT]) :: own 21 1 (.slice aI nI cI) nI (runes p.inter) :: own 21 1 (.slice aT nT cT) nT (runes p.text) :: H) w → Calls Try.prog 21 #[.pointer (some ⟨b, 0, none⟩), .int .i32 65533] w (Acts W H b (q, X))) := Lib.hid fun H w aI aT cI cT hs => by
    replace hs : sat W (prs b p :: H) w := sat.prs_close hI hT (by rw [HK.out]; exact hs)
    rw [← hX]
    exact osc21 ok hs
  clear hl ok hI hT hk hX
  go_enter Try.func8, Try.ntmps8
  go_wp2_with (first | (go_at_call 14; refine (HA.out _ _ hs).mono ?_; clear hs; rintro e w ⟨rfl, hs⟩; obtain ⟨aI, cI, aT, cT, hs⟩ := sat.prs_open HI.out HT.out hs; rw [HK.out] at hs) | (go_at_call 21; refine (HF.out _ _ _ _ _ _ (by (apply sk_from (hs := hs); repeat constructor))).mono ?_; clear hs; rintro e w ⟨aX, cX, rfl, hs⟩) | ((with_reducible refine isl ?_); first | ((with_reducible apply stsw hs.b0); exact rfl; exact rfl; exact rfl; exact rfl; exact row45; exact rfl; exact rfl; exact rfl; clear hs; intro w hs) | ((with_reducible apply ld hs.b0); exact rfl; exact rfl; exact rfl; exact pm_c0; exact one5) | ((with_reducible apply ld hs.b0); exact rfl; exact rfl; exact rfl; exact pm_c1; exact one21) | ((with_reducible apply ld hs.b0); exact rfl; exact rfl; exact rfl; exact pm_c36 HL.out; exact one22) | ((with_reducible apply ld hs.b0); exact rfl; exact rfl; exact rfl; exact pm_c37 HL.out; exact one4) | ((with_reducible apply ld hs.b0); exact rfl; exact rfl; exact rfl; exact pm_c38 HL.out; exact one22) | ((with_reducible apply ld hs.b1); exact rfl; exact rfl; exact rfl; exact pm_c0; exact one5) | ((with_reducible apply ld hs.b1); exact rfl; exact rfl; exact rfl; exact pm_c1; exact one21) | ((with_reducible apply ld hs.b1); exact rfl; exact rfl; exact rfl; exact pm_c36 HL.out; exact one22) | ((with_reducible apply ld hs.b1); exact rfl; exact rfl; exact rfl; exact pm_c37 HL.out; exact one4) | ((with_reducible apply ld hs.b1); exact rfl; exact rfl; exact rfl; exact pm_c38 HL.out; exact one22) | ((with_reducible apply ld hs.b0); exact rfl; exact rfl; exact rfl; exact rfl; exact one44) | ((with_reducible apply ld hs.b1); exact rfl; exact rfl; exact rfl; exact rfl; exact one44) | ((with_reducible refine wrap hs ?_); clear hs; (first | generalize w.heap.size = z7); intro w hs) | ((with_reducible refine wrap hs ?_); clear hs; intro w hs) | ((with_reducible refine wrapn hs ?_); clear hs; intro w hs) | ((with_reducible refine wrapd hs ?_); clear hs; intro w hs)))
  go_ret
  exact ⟨_, _, rfl, by (refine sb_from ?_ hs; repeat constructor)⟩
set_option maxHeartbeats 1000000 in
theorem feed_0_big {r : Int} (h0 : 1114111 < r) (hl : lead 65533 = none)  (hk : p.st = 0)  (ok : p.ok) (hs : sat W (prs b p :: H) w) : Calls Try.prog 8 #[.pointer (some ⟨b, 0, none⟩), .int .i32 r] w (Acts W H b ((p, if 65533 < 32 then exec 65533 else prnt 65533))) := by
  have HA := Lib.hid (fun (H : List HProp) (w : World) (hs : sat W (prs b p :: H) w) => any_no (r := 65533) hl ok hs)
  obtain ⟨nI, hI⟩ : ∃ n, p.inter.length = n := ⟨_, rfl⟩
  obtain ⟨nT, hT⟩ : ∃ n, p.text.length = n := ⟨_, rfl⟩
  have HL := Lib.hid ok.par.1
  have HI := Lib.hid hI
  have HT := Lib.hid hT
  have HOK := Lib.hid ok
  have HK : Hid ((p.st : Int) = 0) := Lib.hid (by rw [hk]; rfl)
  have HST := Lib.hid hk
  obtain ⟨q, X, hX⟩ : ∃ q X, (p, if 65533 < 32 then exec 65533 else prnt 65533) = (q, X) := ⟨_, _, rfl⟩
  rw [hX]
  have HF : Hid (∀ (H : List HProp) (w : World) (aI aT : Option Addr) (cI cT : Nat), sat W (cel b 40 (pm (.int .u8 0) (.int .i32 p.pr) p.par [.slice aI nI cI, .bool p.over, .slice aT nT cT]) :: own 21 1 (.slice aI nI cI) nI (runes p.inter) :: own 21 1 (.slice aT nT cT) nT (runes p.text) :: H) w → Calls Try.prog 15 #[.pointer (some ⟨b, 0, none⟩), .int .i32 65533] w (Acts W H b (q, X))) := Lib.hid fun H w aI aT cI cT hs => by
    replace hs : sat W (prs b p :: H) w := sat.prs_close hI hT (by rw [HK.out]; exact hs)
    rw [← hX]
    exact ground_acts hs
  clear hl ok hI hT hk hX
  go_enter Try.func8, Try.ntmps8
  go_wp2_with (first | (go_at_call 14; refine (HA.out _ _ hs).mono ?_; clear hs; rintro e w ⟨rfl, hs⟩; obtain ⟨aI, cI, aT, cT, hs⟩ := sat.prs_open HI.out HT.out hs; rw [HK.out] at hs) | (go_at_call 15; refine (HF.out _ _ _ _ _ _ (by (apply sk_from (hs := hs); repeat constructor))).mono ?_; clear hs; rintro e w ⟨aX, cX, rfl, hs⟩) | ((with_reducible refine isl ?_); first | ((with_reducible apply stsw hs.b0); exact rfl; exact rfl; exact rfl; exact rfl; exact row45; exact rfl; exact rfl; exact rfl; clear hs; intro w hs) | ((with_reducible apply ld hs.b0); exact rfl; exact rfl; exact rfl; exact pm_c0; exact one5) | ((with_reducible apply ld hs.b0); exact rfl; exact rfl; exact rfl; exact pm_c1; exact one21) | ((with_reducible apply ld hs.b0); exact rfl; exact rfl; exact rfl; exact pm_c36 HL.out; exact one22) | ((with_reducible apply ld hs.b0); exact rfl; exact rfl; exact rfl; exact pm_c37 HL.out; exact one4) | ((with_reducible apply ld hs.b0); exact rfl; exact rfl; exact rfl; exact pm_c38 HL.out; exact one22) | ((with_reducible apply ld hs.b1); exact rfl; exact rfl; exact rfl; exact pm_c0; exact one5) | ((with_reducible apply ld hs.b1); exact rfl; exact rfl; exact rfl; exact pm_c1; exact one21) | ((with_reducible apply ld hs.b1); exact rfl; exact rfl; exact rfl; exact pm_c36 HL.out; exact one22) | ((with_reducible apply ld hs.b1); exact rfl; exact rfl; exact rfl; exact pm_c37 HL.out; exact one4) | ((with_reducible apply ld hs.b1); exact rfl; exact rfl; exact rfl; exact pm_c38 HL.out; exact one22) | ((with_reducible apply ld hs.b0); exact rfl; exact rfl; exact rfl; exact rfl; exact one44) | ((with_reducible apply ld hs.b1); exact rfl; exact rfl; exact rfl; exact rfl; exact one44) | ((with_reducible refine wrap hs ?_); clear hs; (first | generalize w.heap.size = z7); intro w hs) | ((with_reducible refine wrap hs ?_); clear hs; intro w hs) | ((with_reducible refine wrapn hs ?_); clear hs; intro w hs) | ((with_reducible refine wrapd hs ?_); clear hs; intro w hs)))
  go_ret
  exact ⟨_, _, rfl, by (refine sb_from ?_ hs; repeat constructor)⟩
set_option maxHeartbeats 1000000 in
theorem feed_12_big {r : Int} (h0 : 1114111 < r) (hl : lead 65533 = none)  (hk : p.st = 12)  (ok : p.ok) (hs : sat W (prs b p :: H) w) : Calls Try.prog 8 #[.pointer (some ⟨b, 0, none⟩), .int .i32 r] w (Acts W H b (osc p 65533)) := by
  have HA := Lib.hid (fun (H : List HProp) (w : World) (hs : sat W (prs b p :: H) w) => any_no (r := 65533) hl ok hs)
  obtain ⟨nI, hI⟩ : ∃ n, p.inter.length = n := ⟨_, rfl⟩
  obtain ⟨nT, hT⟩ : ∃ n, p.text.length = n := ⟨_, rfl⟩
  have HL := Lib.hid ok.par.1
  have HI := Lib.hid hI
  have HT := Lib.hid hT
  have HOK := Lib.hid ok
  have HK : Hid ((p.st : Int) = 12) := Lib.hid (by rw [hk]; rfl)
  have HST := Lib.hid hk
  obtain ⟨q, X, hX⟩ : ∃ q X, osc p 65533 = (q, X) := ⟨_, _, rfl⟩
  rw [hX]
  have HF : Hid (∀ (H : List HProp) (w : World) (aI aT : Option Addr) (cI cT : Nat), sat W (cel b 40 (pm (.int .u8 12) (.int .i32 p.pr) p.par [.slice aI nI cI, .bool p.over, .slice aT nT cT]) :: own 21 1 (.slice aI nI cI) nI (runes p.inter) :: own 21 1 (.slice aT nT cT) nT (runes p.text) :: H) w → Calls Try.prog 21 #[.pointer (some ⟨b, 0, none⟩), .int .i32 65533] w (Acts W H b (q, X))) := Lib.hid fun H w aI aT cI cT hs => by
    replace hs : sat W (prs b p :: H) w := sat.prs_close hI hT (by rw [HK.out]; exact hs)
    rw [← hX]
    exact osc21 ok hs
  clear hl ok hI hT hk hX
  go_enter Try.func8, Try.ntmps8
  go_wp2_with (first | (go_at_call 14; refine (HA.out _ _ hs).mono ?_; clear hs; rintro e w ⟨rfl, hs⟩; obtain ⟨aI, cI, aT, cT, hs⟩ := sat.prs_open HI.out HT.out hs; rw [HK.out] at hs) | (go_at_call 21; refine (HF.out _ _ _ _ _ _ (by (apply sk_from (hs := hs); repeat constructor))).mono ?_; clear hs; rintro e w ⟨aX, cX, rfl, hs⟩) | ((with_reducible refine isl ?_); first | ((with_reducible apply stsw hs.b0); exact rfl; exact rfl; exact rfl; exact rfl; exact row45; exact rfl; exact rfl; exact rfl; clear hs; intro w hs) | ((with_reducible apply ld hs.b0); exact rfl; exact rfl; exact rfl; exact pm_c0; exact one5) | ((with_reducible apply ld hs.b0); exact rfl; exact rfl; exact rfl; exact pm_c1; exact one21) | ((with_reducible apply ld hs.b0); exact rfl; exact rfl; exact rfl; exact pm_c36 HL.out; exact one22) | ((with_reducible apply ld hs.b0); exact rfl; exact rfl; exact rfl; exact pm_c37 HL.out; exact one4) | ((with_reducible apply ld hs.b0); exact rfl; exact rfl; exact rfl; exact pm_c38 HL.out; exact one22) | ((with_reducible apply ld hs.b1); exact rfl; exact rfl; exact rfl; exact pm_c0; exact one5) | ((with_reducible apply ld hs.b1); exact rfl; exact rfl; exact rfl; exact pm_c1; exact one21) | ((with_reducible apply ld hs.b1); exact rfl; exact rfl; exact rfl; exact pm_c36 HL.out; exact one22) | ((with_reducible apply ld hs.b1); exact rfl; exact rfl; exact rfl; exact pm_c37 HL.out; exact one4) | ((with_reducible apply ld hs.b1); exact rfl; exact rfl; exact rfl; exact pm_c38 HL.out; exact one22) | ((with_reducible apply ld hs.b0); exact rfl; exact rfl; exact rfl; exact rfl; exact one44) | ((with_reducible apply ld hs.b1); exact rfl; exact rfl; exact rfl; exact rfl; exact one44) | ((with_reducible refine wrap hs ?_); clear hs; (first | generalize w.heap.size = z7); intro w hs) | ((with_reducible refine wrap hs ?_); clear hs; intro w hs) | ((with_reducible refine wrapn hs ?_); clear hs; intro w hs) | ((with_reducible refine wrapd hs ?_); clear hs; intro w hs)))
  go_ret
  exact ⟨_, _, rfl, by (refine sb_from ?_ hs; repeat constructor)⟩
set_option maxHeartbeats 1000000 in
theorem feed_else_in {r : Int} (h0 : 0 ≤ r) (h1 : r < 1114112) (hl : lead r = none) (h127 : (r == 127) = false) (hk0 : p.st ≠ 0) (hk12 : p.st ≠ 12) (h160 : 160 ≤ r) (ok : p.ok) (hs : sat W (prs b p :: H) w) : Calls Try.prog 8 #[.pointer (some ⟨b, 0, none⟩), .int .i32 r] w (Acts W H b (p, [])) := by
  have HA := Lib.hid (fun (H : List HProp) (w : World) (hs : sat W (prs b p :: H) w) => any_no (r := r) hl ok hs)
  obtain ⟨nI, hI⟩ : ∃ n, p.inter.length = n := ⟨_, rfl⟩
  obtain ⟨nT, hT⟩ : ∃ n, p.text.length = n := ⟨_, rfl⟩
  have HL := Lib.hid ok.par.1
  have HI := Lib.hid hI
  have HT := Lib.hid hT
  have g0 : ((p.st : Int) != 0) = true := by simp; omega
  have g12 : ((p.st : Int) != 12) = true := by simp; omega
  clear hl ok hI hT hk0 hk12
  go_enter Try.func8, Try.ntmps8
  go_wp2_with (first | (go_at_call 14; refine (HA.out _ _ hs).mono ?_; clear hs; rintro e w ⟨rfl, hs⟩; obtain ⟨aI, cI, aT, cT, hs⟩ := sat.prs_open HI.out HT.out hs) | ((with_reducible refine isl ?_); first | ((with_reducible apply ld hs.b0); exact rfl; exact rfl; exact rfl; exact pm_c0; exact one5) | ((with_reducible apply ld hs.b0); exact rfl; exact rfl; exact rfl; exact pm_c1; exact one21) | ((with_reducible apply ld hs.b0); exact rfl; exact rfl; exact rfl; exact pm_c36 HL.out; exact one22) | ((with_reducible apply ld hs.b0); exact rfl; exact rfl; exact rfl; exact pm_c37 HL.out; exact one4) | ((with_reducible apply ld hs.b0); exact rfl; exact rfl; exact rfl; exact pm_c38 HL.out; exact one22) | ((with_reducible refine wrap hs ?_); clear hs; intro w hs) | ((with_reducible refine wrapn hs ?_); clear hs; intro w hs) | ((with_reducible refine wrapd hs ?_); clear hs; intro w hs)))
  go_ret
  exact Acts.none (sat.prs_close (p := p) HI.out HT.out hs)
set_option maxHeartbeats 1000000 in
theorem feed_else_neg {r : Int} (h0 : r < 0) (hl : lead 65533 = none)  (hk0 : p.st ≠ 0) (hk12 : p.st ≠ 12)  (ok : p.ok) (hs : sat W (prs b p :: H) w) : Calls Try.prog 8 #[.pointer (some ⟨b, 0, none⟩), .int .i32 r] w (Acts W H b (p, [])) := by
  have HA := Lib.hid (fun (H : List HProp) (w : World) (hs : sat W (prs b p :: H) w) => any_no (r := 65533) hl ok hs)
  obtain ⟨nI, hI⟩ : ∃ n, p.inter.length = n := ⟨_, rfl⟩
  obtain ⟨nT, hT⟩ : ∃ n, p.text.length = n := ⟨_, rfl⟩
  have HL := Lib.hid ok.par.1
  have HI := Lib.hid hI
  have HT := Lib.hid hT
  have g0 : ((p.st : Int) != 0) = true := by simp; omega
  have g12 : ((p.st : Int) != 12) = true := by simp; omega
  clear hl ok hI hT hk0 hk12
  go_enter Try.func8, Try.ntmps8
  go_wp2_with (first | (go_at_call 14; refine (HA.out _ _ hs).mono ?_; clear hs; rintro e w ⟨rfl, hs⟩; obtain ⟨aI, cI, aT, cT, hs⟩ := sat.prs_open HI.out HT.out hs) | ((with_reducible refine isl ?_); first | ((with_reducible apply ld hs.b0); exact rfl; exact rfl; exact rfl; exact pm_c0; exact one5) | ((with_reducible apply ld hs.b0); exact rfl; exact rfl; exact rfl; exact pm_c1; exact one21) | ((with_reducible apply ld hs.b0); exact rfl; exact rfl; exact rfl; exact pm_c36 HL.out; exact one22) | ((with_reducible apply ld hs.b0); exact rfl; exact rfl; exact rfl; exact pm_c37 HL.out; exact one4) | ((with_reducible apply ld hs.b0); exact rfl; exact rfl; exact rfl; exact pm_c38 HL.out; exact one22) | ((with_reducible refine wrap hs ?_); clear hs; intro w hs) | ((with_reducible refine wrapn hs ?_); clear hs; intro w hs) | ((with_reducible refine wrapd hs ?_); clear hs; intro w hs)))
  go_ret
  exact Acts.none (sat.prs_close (p := p) HI.out HT.out hs)
set_option maxHeartbeats 1000000 in
theorem feed_else_big {r : Int} (h0 : 1114111 < r) (hl : lead 65533 = none)  (hk0 : p.st ≠ 0) (hk12 : p.st ≠ 12)  (ok : p.ok) (hs : sat W (prs b p :: H) w) : Calls Try.prog 8 #[.pointer (some ⟨b, 0, none⟩), .int .i32 r] w (Acts W H b (p, [])) := by
  have HA := Lib.hid (fun (H : List HProp) (w : World) (hs : sat W (prs b p :: H) w) => any_no (r := 65533) hl ok hs)
  obtain ⟨nI, hI⟩ : ∃ n, p.inter.length = n := ⟨_, rfl⟩
  obtain ⟨nT, hT⟩ : ∃ n, p.text.length = n := ⟨_, rfl⟩
  have HL := Lib.hid ok.par.1
  have HI := Lib.hid hI
  have HT := Lib.hid hT
  have g0 : ((p.st : Int) != 0) = true := by simp; omega
  have g12 : ((p.st : Int) != 12) = true := by simp; omega
  clear hl ok hI hT hk0 hk12
  go_enter Try.func8, Try.ntmps8
  go_wp2_with (first | (go_at_call 14; refine (HA.out _ _ hs).mono ?_; clear hs; rintro e w ⟨rfl, hs⟩; obtain ⟨aI, cI, aT, cT, hs⟩ := sat.prs_open HI.out HT.out hs) | ((with_reducible refine isl ?_); first | ((with_reducible apply ld hs.b0); exact rfl; exact rfl; exact rfl; exact pm_c0; exact one5) | ((with_reducible apply ld hs.b0); exact rfl; exact rfl; exact rfl; exact pm_c1; exact one21) | ((with_reducible apply ld hs.b0); exact rfl; exact rfl; exact rfl; exact pm_c36 HL.out; exact one22) | ((with_reducible apply ld hs.b0); exact rfl; exact rfl; exact rfl; exact pm_c37 HL.out; exact one4) | ((with_reducible apply ld hs.b0); exact rfl; exact rfl; exact rfl; exact pm_c38 HL.out; exact one22) | ((with_reducible refine wrap hs ?_); clear hs; intro w hs) | ((with_reducible refine wrapn hs ?_); clear hs; intro w hs) | ((with_reducible refine wrapd hs ?_); clear hs; intro w hs)))
  go_ret
  exact Acts.none (sat.prs_close (p := p) HI.out HT.out hs)
theorem feed_127 (ok : p.ok) (hs : sat W (prs b p :: H) w) : Calls Try.prog 8 #[.pointer (some ⟨b, 0, none⟩), .int .i32 127] w (Acts W H b (p, [])) := by
  have HA := Lib.hid (fun (H : List HProp) (w : World) (hs : sat W (prs b p :: H) w) => any_no (r := 127) rfl ok hs)
  clear ok
  go_enter Try.func8, Try.ntmps8
  go_wp2_with (first | (go_at_call 14; refine (HA.out _ _ hs).mono ?_; clear hs; rintro e w ⟨rfl, hs⟩))
  go_ret
  exact Acts.none hs
end Go.Proofs.Ytojgdpccjlgmiaa
