/- Law 04: Feed, taken case by case (further). -/
import Derived.Test.YtojgdpccjlgmiaaK10
namespace Go.Proofs.Ytojgdpccjlgmiaa
open Go.RowKit Go.Mem Go.Parse
variable {W w : World} {H : List HProp}
attribute [local irreducible] World.setCell World.setCells World.alloc World.drew World.drewN Calls sat cel own blk old wpQuiet wpList pm values digit next acs
variable {b : Nat} {st pr : Int} {L : PL} {I T : List Int} {ov : Bool} {p : Ps} {H : List HProp}
attribute [local irreducible] Any
set_option maxHeartbeats 1000000 in
theorem feed_6_in {r : Int} (h0 : 0 ≤ r) (h1 : r < 1114112) (hl : lead r = none) (h127 : (r == 127) = false) (hk : p.st = 6) (h160 : r < 160) (ok : p.ok) (hs : sat W (prs b p :: H) w) : Calls Try.prog 8 #[.pointer (some ⟨b, 0, none⟩), .int .i32 r] w (Acts W H b (ignoring p r)) := by
  have HA := Lib.hid (fun (H : List HProp) (w : World) (hs : sat W (prs b p :: H) w) => any_no (r := r) hl ok hs)
  obtain ⟨nI, hI⟩ : ∃ n, p.inter.length = n := ⟨_, rfl⟩
  obtain ⟨nT, hT⟩ : ∃ n, p.text.length = n := ⟨_, rfl⟩
  have HL := Lib.hid ok.par.1
  have HI := Lib.hid hI
  have HT := Lib.hid hT
  have HOK := Lib.hid ok
  have HK : Hid ((p.st : Int) = 6) := Lib.hid (by rw [hk]; rfl)
  have HST := Lib.hid hk
  obtain ⟨q, X, hX⟩ : ∃ q X, ignoring p r = (q, X) := ⟨_, _, rfl⟩
  rw [hX]
  have HF : Hid (∀ (H : List HProp) (w : World) (aI aT : Option Addr) (cI cT : Nat), sat W (cel b 40 (pm (.int .u8 6) (.int .i32 p.pr) p.par [.slice aI nI cI, .bool p.over, .slice aT nT cT]) :: own 21 1 (.slice aI nI cI) nI (runes p.inter) :: own 21 1 (.slice aT nT cT) nT (runes p.text) :: H) w → Calls Try.prog 18 #[.pointer (some ⟨b, 0, none⟩), .int .i32 r] w (Acts W H b (q, X))) := Lib.hid fun H w aI aT cI cT hs => by
    replace hs : sat W (prs b p :: H) w := sat.prs_close hI hT (by rw [HK.out]; exact hs)
    rw [← hX]
    exact ignore18 ok hs
  clear hl ok hI hT hk hX
  go_enter Try.func8, Try.ntmps8
  go_wp2_with (first | (go_at_call 14; refine (HA.out _ _ hs).mono ?_; clear hs; rintro e w ⟨rfl, hs⟩; obtain ⟨aI, cI, aT, cT, hs⟩ := sat.prs_open HI.out HT.out hs; rw [HK.out] at hs) | (go_at_call 18; refine (HF.out _ _ _ _ _ _ (by (apply sk_from (hs := hs); repeat constructor))).mono ?_; clear hs; rintro e w ⟨aX, cX, rfl, hs⟩) | ((with_reducible refine isl ?_); first | ((with_reducible apply stsw hs.b0); exact rfl; exact rfl; exact rfl; exact rfl; exact row45; exact rfl; exact rfl; exact rfl; clear hs; intro w hs) | ((with_reducible apply ld hs.b0); exact rfl; exact rfl; exact rfl; exact pm_c0; exact one5) | ((with_reducible apply ld hs.b0); exact rfl; exact rfl; exact rfl; exact pm_c1; exact one21) | ((with_reducible apply ld hs.b0); exact rfl; exact rfl; exact rfl; exact pm_c36 HL.out; exact one22) | ((with_reducible apply ld hs.b0); exact rfl; exact rfl; exact rfl; exact pm_c37 HL.out; exact one4) | ((with_reducible apply ld hs.b0); exact rfl; exact rfl; exact rfl; exact pm_c38 HL.out; exact one22) | ((with_reducible apply ld hs.b1); exact rfl; exact rfl; exact rfl; exact pm_c0; exact one5) | ((with_reducible apply ld hs.b1); exact rfl; exact rfl; exact rfl; exact pm_c1; exact one21) | ((with_reducible apply ld hs.b1); exact rfl; exact rfl; exact rfl; exact pm_c36 HL.out; exact one22) | ((with_reducible apply ld hs.b1); exact rfl; exact rfl; exact rfl; exact pm_c37 HL.out; exact one4) | ((with_reducible apply ld hs.b1); exact rfl; exact rfl; exact rfl; exact pm_c38 HL.out; exact one22) | ((with_reducible apply ld hs.b0); exact rfl; exact rfl; exact rfl; exact rfl; exact one44) | ((with_reducible apply ld hs.b1); exact rfl; exact rfl; exact rfl; exact rfl; exact one44) | ((with_reducible refine wrap hs ?_); clear hs; (first | generalize w.heap.size = z7); intro w hs) | ((with_reducible refine wrap hs ?_); clear hs; intro w hs) | ((with_reducible refine wrapn hs ?_); clear hs; intro w hs) | ((with_reducible refine wrapd hs ?_); clear hs; intro w hs)))
  go_ret
  exact ⟨_, _, rfl, by (refine sb_from ?_ hs; repeat constructor)⟩
set_option maxHeartbeats 1000000 in
theorem feed_7_in {r : Int} (h0 : 0 ≤ r) (h1 : r < 1114112) (hl : lead r = none) (h127 : (r == 127) = false) (hk : p.st = 7) (h160 : r < 160) (ok : p.ok) (hs : sat W (prs b p :: H) w) : Calls Try.prog 8 #[.pointer (some ⟨b, 0, none⟩), .int .i32 r] w (Acts W H b ((if r < 32 then (p, []) else sequence p r 6 7 11 10))) := by
  have HA := Lib.hid (fun (H : List HProp) (w : World) (hs : sat W (prs b p :: H) w) => any_no (r := r) hl ok hs)
  obtain ⟨nI, hI⟩ : ∃ n, p.inter.length = n := ⟨_, rfl⟩
  obtain ⟨nT, hT⟩ : ∃ n, p.text.length = n := ⟨_, rfl⟩
  have HL := Lib.hid ok.par.1
  have HI := Lib.hid hI
  have HT := Lib.hid hT
  have HOK := Lib.hid ok
  have HK : Hid ((p.st : Int) = 7) := Lib.hid (by rw [hk]; rfl)
  have HST := Lib.hid hk
  obtain ⟨q, X, hX⟩ : ∃ q X, (if r < 32 then (p, []) else sequence p r 6 7 11 10) = (q, X) := ⟨_, _, rfl⟩
  rw [hX]
  have HF : Hid (∀ (H : List HProp) (w : World) (aI aT : Option Addr) (cI cT : Nat), sat W (cel b 40 (pm (.int .u8 7) (.int .i32 p.pr) p.par [.slice aI nI cI, .bool p.over, .slice aT nT cT]) :: own 21 1 (.slice aI nI cI) nI (runes p.inter) :: own 21 1 (.slice aT nT cT) nT (runes p.text) :: H) w → Calls Try.prog 19 #[.pointer (some ⟨b, 0, none⟩), .int .i32 r] w (Acts W H b (q, X))) := Lib.hid fun H w aI aT cI cT hs => by
    replace hs : sat W (prs b p :: H) w := sat.prs_close hI hT (by rw [HK.out]; exact hs)
    rw [← hX]
    exact dcs19 (by omega) ok hs
  clear hl ok hI hT hk hX
  go_enter Try.func8, Try.ntmps8
  go_wp2_with (first | (go_at_call 14; refine (HA.out _ _ hs).mono ?_; clear hs; rintro e w ⟨rfl, hs⟩; obtain ⟨aI, cI, aT, cT, hs⟩ := sat.prs_open HI.out HT.out hs; rw [HK.out] at hs) | (go_at_call 19; refine (HF.out _ _ _ _ _ _ (by (apply sk_from (hs := hs); repeat constructor))).mono ?_; clear hs; rintro e w ⟨aX, cX, rfl, hs⟩) | ((with_reducible refine isl ?_); first | ((with_reducible apply stsw hs.b0); exact rfl; exact rfl; exact rfl; exact rfl; exact row45; exact rfl; exact rfl; exact rfl; clear hs; intro w hs) | ((with_reducible apply ld hs.b0); exact rfl; exact rfl; exact rfl; exact pm_c0; exact one5) | ((with_reducible apply ld hs.b0); exact rfl; exact rfl; exact rfl; exact pm_c1; exact one21) | ((with_reducible apply ld hs.b0); exact rfl; exact rfl; exact rfl; exact pm_c36 HL.out; exact one22) | ((with_reducible apply ld hs.b0); exact rfl; exact rfl; exact rfl; exact pm_c37 HL.out; exact one4) | ((with_reducible apply ld hs.b0); exact rfl; exact rfl; exact rfl; exact pm_c38 HL.out; exact one22) | ((with_reducible apply ld hs.b1); exact rfl; exact rfl; exact rfl; exact pm_c0; exact one5) | ((with_reducible apply ld hs.b1); exact rfl; exact rfl; exact rfl; exact pm_c1; exact one21) | ((with_reducible apply ld hs.b1); exact rfl; exact rfl; exact rfl; exact pm_c36 HL.out; exact one22) | ((with_reducible apply ld hs.b1); exact rfl; exact rfl; exact rfl; exact pm_c37 HL.out; exact one4) | ((with_reducible apply ld hs.b1); exact rfl; exact rfl; exact rfl; exact pm_c38 HL.out; exact one22) | ((with_reducible apply ld hs.b0); exact rfl; exact rfl; exact rfl; exact rfl; exact one44) | ((with_reducible apply ld hs.b1); exact rfl; exact rfl; exact rfl; exact rfl; exact one44) | ((with_reducible refine wrap hs ?_); clear hs; (first | generalize w.heap.size = z7); intro w hs) | ((with_reducible refine wrap hs ?_); clear hs; intro w hs) | ((with_reducible refine wrapn hs ?_); clear hs; intro w hs) | ((with_reducible refine wrapd hs ?_); clear hs; intro w hs)))
  go_ret
  exact ⟨_, _, rfl, by (refine sb_from ?_ hs; repeat constructor)⟩
set_option maxHeartbeats 1000000 in
theorem feed_8_in {r : Int} (h0 : 0 ≤ r) (h1 : r < 1114112) (hl : lead r = none) (h127 : (r == 127) = false) (hk : p.st = 8) (h160 : r < 160) (ok : p.ok) (hs : sat W (prs b p :: H) w) : Calls Try.prog 8 #[.pointer (some ⟨b, 0, none⟩), .int .i32 r] w (Acts W H b ((if r < 32 then (p, []) else sequence p r 6 7 11 10))) := by
  have HA := Lib.hid (fun (H : List HProp) (w : World) (hs : sat W (prs b p :: H) w) => any_no (r := r) hl ok hs)
  obtain ⟨nI, hI⟩ : ∃ n, p.inter.length = n := ⟨_, rfl⟩
  obtain ⟨nT, hT⟩ : ∃ n, p.text.length = n := ⟨_, rfl⟩
  have HL := Lib.hid ok.par.1
  have HI := Lib.hid hI
  have HT := Lib.hid hT
  have HOK := Lib.hid ok
  have HK : Hid ((p.st : Int) = 8) := Lib.hid (by rw [hk]; rfl)
  have HST := Lib.hid hk
  obtain ⟨q, X, hX⟩ : ∃ q X, (if r < 32 then (p, []) else sequence p r 6 7 11 10) = (q, X) := ⟨_, _, rfl⟩
  rw [hX]
  have HF : Hid (∀ (H : List HProp) (w : World) (aI aT : Option Addr) (cI cT : Nat), sat W (cel b 40 (pm (.int .u8 8) (.int .i32 p.pr) p.par [.slice aI nI cI, .bool p.over, .slice aT nT cT]) :: own 21 1 (.slice aI nI cI) nI (runes p.inter) :: own 21 1 (.slice aT nT cT) nT (runes p.text) :: H) w → Calls Try.prog 19 #[.pointer (some ⟨b, 0, none⟩), .int .i32 r] w (Acts W H b (q, X))) := Lib.hid fun H w aI aT cI cT hs => by
    replace hs : sat W (prs b p :: H) w := sat.prs_close hI hT (by rw [HK.out]; exact hs)
    rw [← hX]
    exact dcs19 (by omega) ok hs
  clear hl ok hI hT hk hX
  go_enter Try.func8, Try.ntmps8
  go_wp2_with (first | (go_at_call 14; refine (HA.out _ _ hs).mono ?_; clear hs; rintro e w ⟨rfl, hs⟩; obtain ⟨aI, cI, aT, cT, hs⟩ := sat.prs_open HI.out HT.out hs; rw [HK.out] at hs) | (go_at_call 19; refine (HF.out _ _ _ _ _ _ (by (apply sk_from (hs := hs); repeat constructor))).mono ?_; clear hs; rintro e w ⟨aX, cX, rfl, hs⟩) | ((with_reducible refine isl ?_); first | ((with_reducible apply stsw hs.b0); exact rfl; exact rfl; exact rfl; exact rfl; exact row45; exact rfl; exact rfl; exact rfl; clear hs; intro w hs) | ((with_reducible apply ld hs.b0); exact rfl; exact rfl; exact rfl; exact pm_c0; exact one5) | ((with_reducible apply ld hs.b0); exact rfl; exact rfl; exact rfl; exact pm_c1; exact one21) | ((with_reducible apply ld hs.b0); exact rfl; exact rfl; exact rfl; exact pm_c36 HL.out; exact one22) | ((with_reducible apply ld hs.b0); exact rfl; exact rfl; exact rfl; exact pm_c37 HL.out; exact one4) | ((with_reducible apply ld hs.b0); exact rfl; exact rfl; exact rfl; exact pm_c38 HL.out; exact one22) | ((with_reducible apply ld hs.b1); exact rfl; exact rfl; exact rfl; exact pm_c0; exact one5) | ((with_reducible apply ld hs.b1); exact rfl; exact rfl; exact rfl; exact pm_c1; exact one21) | ((with_reducible apply ld hs.b1); exact rfl; exact rfl; exact rfl; exact pm_c36 HL.out; exact one22) | ((with_reducible apply ld hs.b1); exact rfl; exact rfl; exact rfl; exact pm_c37 HL.out; exact one4) | ((with_reducible apply ld hs.b1); exact rfl; exact rfl; exact rfl; exact pm_c38 HL.out; exact one22) | ((with_reducible apply ld hs.b0); exact rfl; exact rfl; exact rfl; exact rfl; exact one44) | ((with_reducible apply ld hs.b1); exact rfl; exact rfl; exact rfl; exact rfl; exact one44) | ((with_reducible refine wrap hs ?_); clear hs; (first | generalize w.heap.size = z7); intro w hs) | ((with_reducible refine wrap hs ?_); clear hs; intro w hs) | ((with_reducible refine wrapn hs ?_); clear hs; intro w hs) | ((with_reducible refine wrapd hs ?_); clear hs; intro w hs)))
  go_ret
  exact ⟨_, _, rfl, by (refine sb_from ?_ hs; repeat constructor)⟩
set_option maxHeartbeats 1000000 in
theorem feed_9_in {r : Int} (h0 : 0 ≤ r) (h1 : r < 1114112) (hl : lead r = none) (h127 : (r == 127) = false) (hk : p.st = 9) (h160 : r < 160) (ok : p.ok) (hs : sat W (prs b p :: H) w) : Calls Try.prog 8 #[.pointer (some ⟨b, 0, none⟩), .int .i32 r] w (Acts W H b ((if r < 32 then (p, []) else sequence p r 6 7 11 10))) := by
  have HA := Lib.hid (fun (H : List HProp) (w : World) (hs : sat W (prs b p :: H) w) => any_no (r := r) hl ok hs)
  obtain ⟨nI, hI⟩ : ∃ n, p.inter.length = n := ⟨_, rfl⟩
  obtain ⟨nT, hT⟩ : ∃ n, p.text.length = n := ⟨_, rfl⟩
  have HL := Lib.hid ok.par.1
  have HI := Lib.hid hI
  have HT := Lib.hid hT
  have HOK := Lib.hid ok
  have HK : Hid ((p.st : Int) = 9) := Lib.hid (by rw [hk]; rfl)
  have HST := Lib.hid hk
  obtain ⟨q, X, hX⟩ : ∃ q X, (if r < 32 then (p, []) else sequence p r 6 7 11 10) = (q, X) := ⟨_, _, rfl⟩
  rw [hX]
  have HF : Hid (∀ (H : List HProp) (w : World) (aI aT : Option Addr) (cI cT : Nat), sat W (cel b 40 (pm (.int .u8 9) (.int .i32 p.pr) p.par [.slice aI nI cI, .bool p.over, .slice aT nT cT]) :: own 21 1 (.slice aI nI cI) nI (runes p.inter) :: own 21 1 (.slice aT nT cT) nT (runes p.text) :: H) w → Calls Try.prog 19 #[.pointer (some ⟨b, 0, none⟩), .int .i32 r] w (Acts W H b (q, X))) := Lib.hid fun H w aI aT cI cT hs => by
    replace hs : sat W (prs b p :: H) w := sat.prs_close hI hT (by rw [HK.out]; exact hs)
    rw [← hX]
    exact dcs19 (by omega) ok hs
  clear hl ok hI hT hk hX
  go_enter Try.func8, Try.ntmps8
  go_wp2_with (first | (go_at_call 14; refine (HA.out _ _ hs).mono ?_; clear hs; rintro e w ⟨rfl, hs⟩; obtain ⟨aI, cI, aT, cT, hs⟩ := sat.prs_open HI.out HT.out hs; rw [HK.out] at hs) | (go_at_call 19; refine (HF.out _ _ _ _ _ _ (by (apply sk_from (hs := hs); repeat constructor))).mono ?_; clear hs; rintro e w ⟨aX, cX, rfl, hs⟩) | ((with_reducible refine isl ?_); first | ((with_reducible apply stsw hs.b0); exact rfl; exact rfl; exact rfl; exact rfl; exact row45; exact rfl; exact rfl; exact rfl; clear hs; intro w hs) | ((with_reducible apply ld hs.b0); exact rfl; exact rfl; exact rfl; exact pm_c0; exact one5) | ((with_reducible apply ld hs.b0); exact rfl; exact rfl; exact rfl; exact pm_c1; exact one21) | ((with_reducible apply ld hs.b0); exact rfl; exact rfl; exact rfl; exact pm_c36 HL.out; exact one22) | ((with_reducible apply ld hs.b0); exact rfl; exact rfl; exact rfl; exact pm_c37 HL.out; exact one4) | ((with_reducible apply ld hs.b0); exact rfl; exact rfl; exact rfl; exact pm_c38 HL.out; exact one22) | ((with_reducible apply ld hs.b1); exact rfl; exact rfl; exact rfl; exact pm_c0; exact one5) | ((with_reducible apply ld hs.b1); exact rfl; exact rfl; exact rfl; exact pm_c1; exact one21) | ((with_reducible apply ld hs.b1); exact rfl; exact rfl; exact rfl; exact pm_c36 HL.out; exact one22) | ((with_reducible apply ld hs.b1); exact rfl; exact rfl; exact rfl; exact pm_c37 HL.out; exact one4) | ((with_reducible apply ld hs.b1); exact rfl; exact rfl; exact rfl; exact pm_c38 HL.out; exact one22) | ((with_reducible apply ld hs.b0); exact rfl; exact rfl; exact rfl; exact rfl; exact one44) | ((with_reducible apply ld hs.b1); exact rfl; exact rfl; exact rfl; exact rfl; exact one44) | ((with_reducible refine wrap hs ?_); clear hs; (first | generalize w.heap.size = z7); intro w hs) | ((with_reducible refine wrap hs ?_); clear hs; intro w hs) | ((with_reducible refine wrapn hs ?_); clear hs; intro w hs) | ((with_reducible refine wrapd hs ?_); clear hs; intro w hs)))
  go_ret
  exact ⟨_, _, rfl, by (refine sb_from ?_ hs; repeat constructor)⟩
set_option maxHeartbeats 1000000 in
theorem feed_10_in {r : Int} (h0 : 0 ≤ r) (h1 : r < 1114112) (hl : lead r = none) (h127 : (r == 127) = false) (hk : p.st = 10) (h160 : r < 160) (ok : p.ok) (hs : sat W (prs b p :: H) w) : Calls Try.prog 8 #[.pointer (some ⟨b, 0, none⟩), .int .i32 r] w (Acts W H b ((p, []))) := by
  have HA := Lib.hid (fun (H : List HProp) (w : World) (hs : sat W (prs b p :: H) w) => any_no (r := r) hl ok hs)
  obtain ⟨nI, hI⟩ : ∃ n, p.inter.length = n := ⟨_, rfl⟩
  obtain ⟨nT, hT⟩ : ∃ n, p.text.length = n := ⟨_, rfl⟩
  have HL := Lib.hid ok.par.1
  have HI := Lib.hid hI
  have HT := Lib.hid hT
  have HOK := Lib.hid ok
  have HK : Hid ((p.st : Int) = 10) := Lib.hid (by rw [hk]; rfl)
  have HST := Lib.hid hk
  obtain ⟨q, X, hX⟩ : ∃ q X, (p, []) = (q, X) := ⟨_, _, rfl⟩
  rw [hX]
  have HF : Hid (∀ (H : List HProp) (w : World) (aI aT : Option Addr) (cI cT : Nat), sat W (cel b 40 (pm (.int .u8 10) (.int .i32 p.pr) p.par [.slice aI nI cI, .bool p.over, .slice aT nT cT]) :: own 21 1 (.slice aI nI cI) nI (runes p.inter) :: own 21 1 (.slice aT nT cT) nT (runes p.text) :: H) w → Calls Try.prog 20 #[.pointer (some ⟨b, 0, none⟩), .int .i32 r] w (Acts W H b (q, X))) := Lib.hid fun H w aI aT cI cT hs => by
    replace hs : sat W (prs b p :: H) w := sat.prs_close hI hT (by rw [HK.out]; exact hs)
    rw [← hX]
    exact nothing_acts hs
  clear hl ok hI hT hk hX
  go_enter Try.func8, Try.ntmps8
  go_wp2_with (first | (go_at_call 14; refine (HA.out _ _ hs).mono ?_; clear hs; rintro e w ⟨rfl, hs⟩; obtain ⟨aI, cI, aT, cT, hs⟩ := sat.prs_open HI.out HT.out hs; rw [HK.out] at hs) | (go_at_call 20; refine (HF.out _ _ _ _ _ _ (by (apply sk_from (hs := hs); repeat constructor))).mono ?_; clear hs; rintro e w ⟨aX, cX, rfl, hs⟩) | ((with_reducible refine isl ?_); first | ((with_reducible apply stsw hs.b0); exact rfl; exact rfl; exact rfl; exact rfl; exact row45; exact rfl; exact rfl; exact rfl; clear hs; intro w hs) | ((with_reducible apply ld hs.b0); exact rfl; exact rfl; exact rfl; exact pm_c0; exact one5) | ((with_reducible apply ld hs.b0); exact rfl; exact rfl; exact rfl; exact pm_c1; exact one21) | ((with_reducible apply ld hs.b0); exact rfl; exact rfl; exact rfl; exact pm_c36 HL.out; exact one22) | ((with_reducible apply ld hs.b0); exact rfl; exact rfl; exact rfl; exact pm_c37 HL.out; exact one4) | ((with_reducible apply ld hs.b0); exact rfl; exact rfl; exact rfl; exact pm_c38 HL.out; exact one22) | ((with_reducible apply ld hs.b1); exact rfl; exact rfl; exact rfl; exact pm_c0; exact one5) | ((with_reducible apply ld hs.b1); exact rfl; exact rfl; exact rfl; exact pm_c1; exact one21) | ((with_reducible apply ld hs.b1); exact rfl; exact rfl; exact rfl; exact pm_c36 HL.out; exact one22) | ((with_reducible apply ld hs.b1); exact rfl; exact rfl; exact rfl; exact pm_c37 HL.out; exact one4) | ((with_reducible apply ld hs.b1); exact rfl; exact rfl; exact rfl; exact pm_c38 HL.out; exact one22) | ((with_reducible apply ld hs.b0); exact rfl; exact rfl; exact rfl; exact rfl; exact one44) | ((with_reducible apply ld hs.b1); exact rfl; exact rfl; exact rfl; exact rfl; exact one44) | ((with_reducible refine wrap hs ?_); clear hs; (first | generalize w.heap.size = z7); intro w hs) | ((with_reducible refine wrap hs ?_); clear hs; intro w hs) | ((with_reducible refine wrapn hs ?_); clear hs; intro w hs) | ((with_reducible refine wrapd hs ?_); clear hs; intro w hs)))
  go_ret
  exact ⟨_, _, rfl, by (refine sb_from ?_ hs; repeat constructor)⟩
set_option maxHeartbeats 1000000 in
theorem feed_11_in {r : Int} (h0 : 0 ≤ r) (h1 : r < 1114112) (hl : lead r = none) (h127 : (r == 127) = false) (hk : p.st = 11) (h160 : r < 160) (ok : p.ok) (hs : sat W (prs b p :: H) w) : Calls Try.prog 8 #[.pointer (some ⟨b, 0, none⟩), .int .i32 r] w (Acts W H b ((p, []))) := by
  have HA := Lib.hid (fun (H : List HProp) (w : World) (hs : sat W (prs b p :: H) w) => any_no (r := r) hl ok hs)
  obtain ⟨nI, hI⟩ : ∃ n, p.inter.length = n := ⟨_, rfl⟩
  obtain ⟨nT, hT⟩ : ∃ n, p.text.length = n := ⟨_, rfl⟩
  have HL := Lib.hid ok.par.1
  have HI := Lib.hid hI
  have HT := Lib.hid hT
  have HOK := Lib.hid ok
  have HK : Hid ((p.st : Int) = 11) := Lib.hid (by rw [hk]; rfl)
  have HST := Lib.hid hk
  obtain ⟨q, X, hX⟩ : ∃ q X, (p, []) = (q, X) := ⟨_, _, rfl⟩
  rw [hX]
  have HF : Hid (∀ (H : List HProp) (w : World) (aI aT : Option Addr) (cI cT : Nat), sat W (cel b 40 (pm (.int .u8 11) (.int .i32 p.pr) p.par [.slice aI nI cI, .bool p.over, .slice aT nT cT]) :: own 21 1 (.slice aI nI cI) nI (runes p.inter) :: own 21 1 (.slice aT nT cT) nT (runes p.text) :: H) w → Calls Try.prog 20 #[.pointer (some ⟨b, 0, none⟩), .int .i32 r] w (Acts W H b (q, X))) := Lib.hid fun H w aI aT cI cT hs => by
    replace hs : sat W (prs b p :: H) w := sat.prs_close hI hT (by rw [HK.out]; exact hs)
    rw [← hX]
    exact nothing_acts hs
  clear hl ok hI hT hk hX
  go_enter Try.func8, Try.ntmps8
  go_wp2_with (first | (go_at_call 14; refine (HA.out _ _ hs).mono ?_; clear hs; rintro e w ⟨rfl, hs⟩; obtain ⟨aI, cI, aT, cT, hs⟩ := sat.prs_open HI.out HT.out hs; rw [HK.out] at hs) | (go_at_call 20; refine (HF.out _ _ _ _ _ _ (by (apply sk_from (hs := hs); repeat constructor))).mono ?_; clear hs; rintro e w ⟨aX, cX, rfl, hs⟩) | ((with_reducible refine isl ?_); first | ((with_reducible apply stsw hs.b0); exact rfl; exact rfl; exact rfl; exact rfl; exact row45; exact rfl; exact rfl; exact rfl; clear hs; intro w hs) | ((with_reducible apply ld hs.b0); exact rfl; exact rfl; exact rfl; exact pm_c0; exact one5) | ((with_reducible apply ld hs.b0); exact rfl; exact rfl; exact rfl; exact pm_c1; exact one21) | ((with_reducible apply ld hs.b0); exact rfl; exact rfl; exact rfl; exact pm_c36 HL.out; exact one22) | ((with_reducible apply ld hs.b0); exact rfl; exact rfl; exact rfl; exact pm_c37 HL.out; exact one4) | ((with_reducible apply ld hs.b0); exact rfl; exact rfl; exact rfl; exact pm_c38 HL.out; exact one22) | ((with_reducible apply ld hs.b1); exact rfl; exact rfl; exact rfl; exact pm_c0; exact one5) | ((with_reducible apply ld hs.b1); exact rfl; exact rfl; exact rfl; exact pm_c1; exact one21) | ((with_reducible apply ld hs.b1); exact rfl; exact rfl; exact rfl; exact pm_c36 HL.out; exact one22) | ((with_reducible apply ld hs.b1); exact rfl; exact rfl; exact rfl; exact pm_c37 HL.out; exact one4) | ((with_reducible apply ld hs.b1); exact rfl; exact rfl; exact rfl; exact pm_c38 HL.out; exact one22) | ((with_reducible apply ld hs.b0); exact rfl; exact rfl; exact rfl; exact rfl; exact one44) | ((with_reducible apply ld hs.b1); exact rfl; exact rfl; exact rfl; exact rfl; exact one44) | ((with_reducible refine wrap hs ?_); clear hs; (first | generalize w.heap.size = z7); intro w hs) | ((with_reducible refine wrap hs ?_); clear hs; intro w hs) | ((with_reducible refine wrapn hs ?_); clear hs; intro w hs) | ((with_reducible refine wrapd hs ?_); clear hs; intro w hs)))
  go_ret
  exact ⟨_, _, rfl, by (refine sb_from ?_ hs; repeat constructor)⟩
set_option maxHeartbeats 1000000 in
theorem feed_12_in {r : Int} (h0 : 0 ≤ r) (h1 : r < 1114112) (hl : lead r = none) (h127 : (r == 127) = false) (hk : p.st = 12) (h160 : r < 160) (ok : p.ok) (hs : sat W (prs b p :: H) w) : Calls Try.prog 8 #[.pointer (some ⟨b, 0, none⟩), .int .i32 r] w (Acts W H b (osc p r)) := by
  have HA := Lib.hid (fun (H : List HProp) (w : World) (hs : sat W (prs b p :: H) w) => any_no (r := r) hl ok hs)
  obtain ⟨nI, hI⟩ : ∃ n, p.inter.length = n := ⟨_, rfl⟩
  obtain ⟨nT, hT⟩ : ∃ n, p.text.length = n := ⟨_, rfl⟩
  have HL := Lib.hid ok.par.1
  have HI := Lib.hid hI
  have HT := Lib.hid hT
  have HOK := Lib.hid ok
  have HK : Hid ((p.st : Int) = 12) := Lib.hid (by rw [hk]; rfl)
  have HST := Lib.hid hk
  obtain ⟨q, X, hX⟩ : ∃ q X, osc p r = (q, X) := ⟨_, _, rfl⟩
  rw [hX]
  have HF : Hid (∀ (H : List HProp) (w : World) (aI aT : Option Addr) (cI cT : Nat), sat W (cel b 40 (pm (.int .u8 12) (.int .i32 p.pr) p.par [.slice aI nI cI, .bool p.over, .slice aT nT cT]) :: own 21 1 (.slice aI nI cI) nI (runes p.inter) :: own 21 1 (.slice aT nT cT) nT (runes p.text) :: H) w → Calls Try.prog 21 #[.pointer (some ⟨b, 0, none⟩), .int .i32 r] w (Acts W H b (q, X))) := Lib.hid fun H w aI aT cI cT hs => by
    replace hs : sat W (prs b p :: H) w := sat.prs_close hI hT (by rw [HK.out]; exact hs)
    rw [← hX]
    exact osc21 ok hs
  clear hl ok hI hT hk hX
  go_enter Try.func8, Try.ntmps8
  go_wp2_with (first | (go_at_call 14; refine (HA.out _ _ hs).mono ?_; clear hs; rintro e w ⟨rfl, hs⟩; obtain ⟨aI, cI, aT, cT, hs⟩ := sat.prs_open HI.out HT.out hs; rw [HK.out] at hs) | (go_at_call 21; refine (HF.out _ _ _ _ _ _ (by (apply sk_from (hs := hs); repeat constructor))).mono ?_; clear hs; rintro e w ⟨aX, cX, rfl, hs⟩) | ((with_reducible refine isl ?_); first | ((with_reducible apply stsw hs.b0); exact rfl; exact rfl; exact rfl; exact rfl; exact row45; exact rfl; exact rfl; exact rfl; clear hs; intro w hs) | ((with_reducible apply ld hs.b0); exact rfl; exact rfl; exact rfl; exact pm_c0; exact one5) | ((with_reducible apply ld hs.b0); exact rfl; exact rfl; exact rfl; exact pm_c1; exact one21) | ((with_reducible apply ld hs.b0); exact rfl; exact rfl; exact rfl; exact pm_c36 HL.out; exact one22) | ((with_reducible apply ld hs.b0); exact rfl; exact rfl; exact rfl; exact pm_c37 HL.out; exact one4) | ((with_reducible apply ld hs.b0); exact rfl; exact rfl; exact rfl; exact pm_c38 HL.out; exact one22) | ((with_reducible apply ld hs.b1); exact rfl; exact rfl; exact rfl; exact pm_c0; exact one5) | ((with_reducible apply ld hs.b1); exact rfl; exact rfl; exact rfl; exact pm_c1; exact one21) | ((with_reducible apply ld hs.b1); exact rfl; exact rfl; exact rfl; exact pm_c36 HL.out; exact one22) | ((with_reducible apply ld hs.b1); exact rfl; exact rfl; exact rfl; exact pm_c37 HL.out; exact one4) | ((with_reducible apply ld hs.b1); exact rfl; exact rfl; exact rfl; exact pm_c38 HL.out; exact one22) | ((with_reducible apply ld hs.b0); exact rfl; exact rfl; exact rfl; exact rfl; exact one44) | ((with_reducible apply ld hs.b1); exact rfl; exact rfl; exact rfl; exact rfl; exact one44) | ((with_reducible refine wrap hs ?_); clear hs; (first | generalize w.heap.size = z7); intro w hs) | ((with_reducible refine wrap hs ?_); clear hs; intro w hs) | ((with_reducible refine wrapn hs ?_); clear hs; intro w hs) | ((with_reducible refine wrapd hs ?_); clear hs; intro w hs)))
  go_ret
  exact ⟨_, _, rfl, by (refine sb_from ?_ hs; repeat constructor)⟩
set_option maxHeartbeats 1000000 in
theorem feed_13_in {r : Int} (h0 : 0 ≤ r) (h1 : r < 1114112) (hl : lead r = none) (h127 : (r == 127) = false) (hk : p.st = 13) (h160 : r < 160) (ok : p.ok) (hs : sat W (prs b p :: H) w) : Calls Try.prog 8 #[.pointer (some ⟨b, 0, none⟩), .int .i32 r] w (Acts W H b ((p, []))) := by
  have HA := Lib.hid (fun (H : List HProp) (w : World) (hs : sat W (prs b p :: H) w) => any_no (r := r) hl ok hs)
  obtain ⟨nI, hI⟩ : ∃ n, p.inter.length = n := ⟨_, rfl⟩
  obtain ⟨nT, hT⟩ : ∃ n, p.text.length = n := ⟨_, rfl⟩
  have HL := Lib.hid ok.par.1
  have HI := Lib.hid hI
  have HT := Lib.hid hT
  have HOK := Lib.hid ok
  have HK : Hid ((p.st : Int) = 13) := Lib.hid (by rw [hk]; rfl)
  have HST := Lib.hid hk
  obtain ⟨q, X, hX⟩ : ∃ q X, (p, []) = (q, X) := ⟨_, _, rfl⟩
  rw [hX]
  have HF : Hid (∀ (H : List HProp) (w : World) (aI aT : Option Addr) (cI cT : Nat), sat W (cel b 40 (pm (.int .u8 13) (.int .i32 p.pr) p.par [.slice aI nI cI, .bool p.over, .slice aT nT cT]) :: own 21 1 (.slice aI nI cI) nI (runes p.inter) :: own 21 1 (.slice aT nT cT) nT (runes p.text) :: H) w → Calls Try.prog 20 #[.pointer (some ⟨b, 0, none⟩), .int .i32 r] w (Acts W H b (q, X))) := Lib.hid fun H w aI aT cI cT hs => by
    replace hs : sat W (prs b p :: H) w := sat.prs_close hI hT (by rw [HK.out]; exact hs)
    rw [← hX]
    exact nothing_acts hs
  clear hl ok hI hT hk hX
  go_enter Try.func8, Try.ntmps8
  go_wp2_with (first | (go_at_call 14; refine (HA.out _ _ hs).mono ?_; clear hs; rintro e w ⟨rfl, hs⟩; obtain ⟨aI, cI, aT, cT, hs⟩ := sat.prs_open HI.out HT.out hs; rw [HK.out] at hs) | (go_at_call 20; refine (HF.out _ _ _ _ _ _ (by (apply sk_from (hs := hs); repeat constructor))).mono ?_; clear hs; rintro e w ⟨aX, cX, rfl, hs⟩) | ((with_reducible refine isl ?_); first | ((with_reducible apply stsw hs.b0); exact rfl; exact rfl; exact rfl; exact rfl; exact row45; exact rfl; exact rfl; exact rfl; clear hs; intro w hs) | ((with_reducible apply ld hs.b0); exact rfl; exact rfl; exact rfl; exact pm_c0; exact one5) | ((with_reducible apply ld hs.b0); exact rfl; exact rfl; exact rfl; exact pm_c1; exact one21) | ((with_reducible apply ld hs.b0); exact rfl; exact rfl; exact rfl; exact pm_c36 HL.out; exact one22) | ((with_reducible apply ld hs.b0); exact rfl; exact rfl; exact rfl; exact pm_c37 HL.out; exact one4) | ((with_reducible apply ld hs.b0); exact rfl; exact rfl; exact rfl; exact pm_c38 HL.out; exact one22) | ((with_reducible apply ld hs.b1); exact rfl; exact rfl; exact rfl; exact pm_c0; exact one5) | ((with_reducible apply ld hs.b1); exact rfl; exact rfl; exact rfl; exact pm_c1; exact one21) | ((with_reducible apply ld hs.b1); exact rfl; exact rfl; exact rfl; exact pm_c36 HL.out; exact one22) | ((with_reducible apply ld hs.b1); exact rfl; exact rfl; exact rfl; exact pm_c37 HL.out; exact one4) | ((with_reducible apply ld hs.b1); exact rfl; exact rfl; exact rfl; exact pm_c38 HL.out; exact one22) | ((with_reducible apply ld hs.b0); exact rfl; exact rfl; exact rfl; exact rfl; exact one44) | ((with_reducible apply ld hs.b1); exact rfl; exact rfl; exact rfl; exact rfl; exact one44) | ((with_reducible refine wrap hs ?_); clear hs; (first | generalize w.heap.size = z7); intro w hs) | ((with_reducible refine wrap hs ?_); clear hs; intro w hs) | ((with_reducible refine wrapn hs ?_); clear hs; intro w hs) | ((with_reducible refine wrapd hs ?_); clear hs; intro w hs)))
  go_ret
  exact ⟨_, _, rfl, by (refine sb_from ?_ hs; repeat constructor)⟩
end Go.Proofs.Ytojgdpccjlgmiaa
