/- Law 18: a known run. -/
import Derived.Test.YtinfgebdcjaabaaQ13
namespace Go.Proofs.Ytinfgebdcjaabaa
open Go.RowKit Go.Mem Go.Queue
variable {W w : World} {H : List HProp}
def kq0 : Qu := ⟨2, [], [], 0, 0, 0⟩
def kq1 : Qu := ⟨2, [⟨1, ⟨#[97, 32, 98]⟩, 0, 1, 1⟩], [], 0, 1, 1⟩
def kq2 : Qu := ⟨2, [⟨1, ⟨#[97, 32, 98]⟩, 0, 1, 1⟩, ⟨2, ⟨#[97, 32, 98]⟩, 1, 2, 1⟩], [], 0, 2, 2⟩
def kq3 : Qu := ⟨2, [⟨1, ⟨#[97, 32, 98]⟩, 0, 1, 1⟩, ⟨2, ⟨#[97, 32, 98]⟩, 1, 2, 1⟩], [], 0, 3, 2⟩
def kq4 : Qu := ⟨2, [⟨1, ⟨#[97, 32, 98]⟩, 0, 1, 1⟩, ⟨3, ⟨#[120]⟩, 0, 0, 2⟩], [], 0, 3, 3⟩
def kq5 : Qu := ⟨2, [⟨1, ⟨#[97, 32, 98]⟩, 0, 1, 1⟩], [⟨3, ⟨#[120]⟩, 0, 0, 2⟩], 0, 3, 3⟩
def kq6 : Qu := ⟨2, [], [⟨1, ⟨#[97, 32, 98]⟩, 0, 1, 1⟩], 0, 3, 3⟩
def kq7 : Qu := ⟨2, [], [⟨1, ⟨#[97, 32, 98]⟩, 0, 1, 1⟩], 1, 3, 3⟩
def kq8 : Qu := ⟨2, [], [], 2, 3, 3⟩
theorem kput0 : put kq0 ⟨0, ⟨#[97, 32, 98]⟩, 0, 1, 1⟩ false = (kq1, ⟨1, [], []⟩, 0) := by rfl
theorem kput1 : put kq1 ⟨0, ⟨#[97, 32, 98]⟩, 1, 2, 1⟩ false = (kq2, ⟨2, [], []⟩, 0) := by rfl
theorem kput2 : put kq2 ⟨0, ⟨#[97, 32, 98]⟩, 2, 3, 1⟩ false = (kq3, ⟨0, [], []⟩, 0) := by rfl
theorem kput3 : put kq3 ⟨0, ⟨#[120]⟩, 0, 0, 2⟩ false = (kq4, ⟨3, [], [⟨2, ⟨#[97, 32, 98]⟩, 1, 2, 1⟩]⟩, 0) := by rfl
theorem kacc0 : accept kq4 = (kq5, some ⟨3, ⟨#[120]⟩, 0, 0, 2⟩) := by rfl
theorem kacc1 : accept kq5 = (kq6, some ⟨1, ⟨#[97, 32, 98]⟩, 0, 1, 1⟩) := by rfl
theorem kmark0 : mark kq6 1 = (kq7, 0) := by rfl
theorem kmark1 : mark kq7 1 = (kq7, 2) := by rfl
theorem kmark2 : mark kq7 2 = (kq8, 0) := by rfl
theorem kmark3 : mark kq8 2 = (kq8, 6) := by rfl
theorem kHG : (uts [⟨2, ⟨#[97, 32, 98]⟩, 1, 2, 1⟩])[2]? = some (.int .u64 1) := rfl
attribute [local irreducible] World.setCell World.setCells World.alloc World.drew World.drewN Calls sat cel own blk old wpQuiet wpList qu uts gn World.rangeAt tru leastUpto bestUpto si Utf8.decode wc wst wordsOf may PutPost put accept mark
variable {b : Nat} {q : Qu}
theorem kp0 (hs : sat W (qu b kq0 :: H) w) : Calls Try.prog 10 #[.pointer (some ⟨b, 0, none⟩), utV ⟨0, ⟨#[97, 32, 98]⟩, 0, 1, 1⟩, .bool false] w fun e w' => ∃ aF cF aD cD, e = .returned (.tuple #[.agg #[.int .i64 1, .slice aF 0 cF, .slice aD 0 cD], .int .i64 0]) ∧ sat W (qu b kq1 :: H) w' := by
  have h := put10 (u := ⟨0, ⟨#[97, 32, 98]⟩, 0, 1, 1⟩) (intr := false) (q := kq0) (by decide) (by decide) (by decide) (by decide) (by decide) hs
  rw [kput0] at h
  unfold PutPost at h
  exact h.mono fun e w' ⟨aF, cF, aD, cD, he, hs⟩ => ⟨aF, cF, aD, cD, he, hs.drop.drop⟩
theorem kp1 (hs : sat W (qu b kq1 :: H) w) : Calls Try.prog 10 #[.pointer (some ⟨b, 0, none⟩), utV ⟨0, ⟨#[97, 32, 98]⟩, 1, 2, 1⟩, .bool false] w fun e w' => ∃ aF cF aD cD, e = .returned (.tuple #[.agg #[.int .i64 2, .slice aF 0 cF, .slice aD 0 cD], .int .i64 0]) ∧ sat W (qu b kq2 :: H) w' := by
  have h := put10 (u := ⟨0, ⟨#[97, 32, 98]⟩, 1, 2, 1⟩) (intr := false) (q := kq1) (by decide) (by decide) (by decide) (by decide) (by decide) hs
  rw [kput1] at h
  unfold PutPost at h
  exact h.mono fun e w' ⟨aF, cF, aD, cD, he, hs⟩ => ⟨aF, cF, aD, cD, he, hs.drop.drop⟩
theorem kp2 (hs : sat W (qu b kq2 :: H) w) : Calls Try.prog 10 #[.pointer (some ⟨b, 0, none⟩), utV ⟨0, ⟨#[97, 32, 98]⟩, 2, 3, 1⟩, .bool false] w fun e w' => ∃ aF cF aD cD, e = .returned (.tuple #[.agg #[.int .i64 0, .slice aF 0 cF, .slice aD 0 cD], .int .i64 0]) ∧ sat W (qu b kq3 :: H) w' := by
  have h := put10 (u := ⟨0, ⟨#[97, 32, 98]⟩, 2, 3, 1⟩) (intr := false) (q := kq2) (by decide) (by decide) (by decide) (by decide) (by decide) hs
  rw [kput2] at h
  unfold PutPost at h
  exact h.mono fun e w' ⟨aF, cF, aD, cD, he, hs⟩ => ⟨aF, cF, aD, cD, he, hs.drop.drop⟩
theorem kp3 (hs : sat W (qu b kq3 :: H) w) : Calls Try.prog 10 #[.pointer (some ⟨b, 0, none⟩), utV ⟨0, ⟨#[120]⟩, 0, 0, 2⟩, .bool false] w fun e w' => ∃ aF cF aD cD, e = .returned (.tuple #[.agg #[.int .i64 3, .slice aF 0 cF, .slice aD 1 cD], .int .i64 0]) ∧ sat W (utO aD cD [⟨2, ⟨#[97, 32, 98]⟩, 1, 2, 1⟩] :: qu b kq4 :: H) w' := by
  have h := put10 (u := ⟨0, ⟨#[120]⟩, 0, 0, 2⟩) (intr := false) (q := kq3) (by decide) (by decide) (by decide) (by decide) (by decide) hs
  rw [kput3] at h
  unfold PutPost at h
  exact h.mono fun e w' ⟨aF, cF, aD, cD, he, hs⟩ => ⟨aF, cF, aD, cD, he, hs.drop⟩
theorem ka0 (hs : sat W (qu b kq4 :: H) w) : Calls Try.prog 11 #[.pointer (some ⟨b, 0, none⟩)] w fun e w' => e = .returned (.tuple #[utV ⟨3, ⟨#[120]⟩, 0, 0, 2⟩, .bool true]) ∧ sat W (qu b kq5 :: H) w' := by
  have h := acc11 (q := kq4) (by decide) (by decide) hs
  rw [kacc0] at h
  exact h
theorem ka1 (hs : sat W (qu b kq5 :: H) w) : Calls Try.prog 11 #[.pointer (some ⟨b, 0, none⟩)] w fun e w' => e = .returned (.tuple #[utV ⟨1, ⟨#[97, 32, 98]⟩, 0, 1, 1⟩, .bool true]) ∧ sat W (qu b kq6 :: H) w' := by
  have h := acc11 (q := kq5) (by decide) (by decide) hs
  rw [kacc1] at h
  exact h
theorem km0 (hs : sat W (qu b kq6 :: H) w) : Calls Try.prog 18 #[.pointer (some ⟨b, 0, none⟩), .int .i64 1] w fun e w' => e = .returned (.int .i64 0) ∧ sat W (qu b kq7 :: H) w' := by
  have h := mark18 (n := 1) (q := kq6) (by decide) (by decide) (by unfold kq6; simp; try decide) hs
  rw [kmark0] at h
  exact h
theorem km1 (hs : sat W (qu b kq7 :: H) w) : Calls Try.prog 18 #[.pointer (some ⟨b, 0, none⟩), .int .i64 1] w fun e w' => e = .returned (.int .i64 2) ∧ sat W (qu b kq7 :: H) w' := by
  have h := mark18 (n := 1) (q := kq7) (by decide) (by decide) (by unfold kq7; simp; try decide) hs
  rw [kmark1] at h
  exact h
theorem km2 (hs : sat W (qu b kq7 :: H) w) : Calls Try.prog 18 #[.pointer (some ⟨b, 0, none⟩), .int .i64 2] w fun e w' => e = .returned (.int .i64 0) ∧ sat W (qu b kq8 :: H) w' := by
  have h := mark18 (n := 2) (q := kq7) (by decide) (by decide) (by unfold kq7; simp; try decide) hs
  rw [kmark2] at h
  exact h
theorem km3 (hs : sat W (qu b kq8 :: H) w) : Calls Try.prog 18 #[.pointer (some ⟨b, 0, none⟩), .int .i64 2] w fun e w' => e = .returned (.int .i64 6) ∧ sat W (qu b kq8 :: H) w' := by
  have h := mark18 (n := 2) (q := kq8) (by decide) (by decide) (by unfold kq8; simp; try decide) hs
  rw [kmark3] at h
  exact h
theorem knew (hs : sat W H w) : Calls Try.prog 7 #[.int .i64 2] w fun e w' => ∃ b, e = .returned (.tuple #[.pointer (some ⟨b, 0, none⟩), .int .i64 0]) ∧ sat W (qu b kq0 :: H) w' := new7 (n := 2) (by decide) (by decide) hs
theorem kd (aD : Option Addr) (cD : Nat) (hs : sat W (utO aD cD [⟨2, ⟨#[97, 32, 98]⟩, 1, 2, 1⟩] :: H) w) : ∃ g, aD = some ⟨g, 0, none⟩ := by
  obtain ⟨g, c, e⟩ := hs.own_some Nat.zero_lt_one
  cases e
  exact ⟨g, rfl⟩
attribute [local irreducible] kq0 kq1 kq2 kq3 kq4 kq5 kq6 kq7 kq8
set_option maxHeartbeats 4000000 in
set_option maxRecDepth 8000 in
theorem known9 (hs : sat W H w) : Calls Try.prog 9 #[] w fun e w' => e = .returned (.bool true) ∧ sat W H w' := by
  have HG : Hid ((uts [⟨2, ⟨#[97, 32, 98]⟩, 1, 2, 1⟩])[2]? = some (.int .u64 1)) := Lib.hid kHG
  go_enter Try.func9, Try.ntmps9
  go_wp2_with (first | (go_at_call 7; (first | refine (knew hs).mono ?_ | refine (knew hs).mono ?_ | refine (knew hs).mono ?_ | refine (knew hs).mono ?_ | refine (knew hs).mono ?_ | refine (knew hs).mono ?_ | refine (knew hs).mono ?_ | refine (knew hs).mono ?_); clear hs; rintro e w ⟨zq, rfl, hs⟩) | (go_at_call 24; (first | refine (span24 _ _ hs).mono ?_ | refine (span24 _ _ hs).mono ?_ | refine (span24 _ _ hs).mono ?_ | refine (span24 _ _ hs).mono ?_ | refine (span24 _ _ hs).mono ?_ | refine (span24 _ _ hs).mono ?_ | refine (span24 _ _ hs).mono ?_ | refine (span24 _ _ hs).mono ?_); clear hs; rintro e w ⟨rfl, hs⟩) | (go_at_call 10; (first | refine (kp0 hs.b0).mono ?_ | refine (kp0 hs.b1).mono ?_ | refine (kp0 hs.b2).mono ?_ | refine (kp0 hs.b3).mono ?_ | refine (kp0 hs.b4).mono ?_ | refine (kp0 hs.b5).mono ?_ | refine (kp0 hs.b6).mono ?_ | refine (kp0 hs.b7).mono ?_ | refine (kp0 hs.b8).mono ?_); clear hs; rintro e w ⟨aF0, cF0, aD0, cD0, rfl, hs⟩) | (go_at_call 10; (first | refine (kp1 hs.b0).mono ?_ | refine (kp1 hs.b1).mono ?_ | refine (kp1 hs.b2).mono ?_ | refine (kp1 hs.b3).mono ?_ | refine (kp1 hs.b4).mono ?_ | refine (kp1 hs.b5).mono ?_ | refine (kp1 hs.b6).mono ?_ | refine (kp1 hs.b7).mono ?_ | refine (kp1 hs.b8).mono ?_); clear hs; rintro e w ⟨aF1, cF1, aD1, cD1, rfl, hs⟩) | (go_at_call 10; (first | refine (kp2 hs.b0).mono ?_ | refine (kp2 hs.b1).mono ?_ | refine (kp2 hs.b2).mono ?_ | refine (kp2 hs.b3).mono ?_ | refine (kp2 hs.b4).mono ?_ | refine (kp2 hs.b5).mono ?_ | refine (kp2 hs.b6).mono ?_ | refine (kp2 hs.b7).mono ?_ | refine (kp2 hs.b8).mono ?_); clear hs; rintro e w ⟨aF2, cF2, aD2, cD2, rfl, hs⟩) | (go_at_call 10; (first | refine (kp3 hs.b0).mono ?_ | refine (kp3 hs.b1).mono ?_ | refine (kp3 hs.b2).mono ?_ | refine (kp3 hs.b3).mono ?_ | refine (kp3 hs.b4).mono ?_ | refine (kp3 hs.b5).mono ?_ | refine (kp3 hs.b6).mono ?_ | refine (kp3 hs.b7).mono ?_ | refine (kp3 hs.b8).mono ?_); clear hs; rintro e w ⟨aF3, cF3, aD3, cD3, rfl, hs⟩; obtain ⟨g3, rfl⟩ := kd aD3 cD3 hs) | (go_at_call 11; (first | refine (ka0 hs.b0).mono ?_ | refine (ka0 hs.b1).mono ?_ | refine (ka0 hs.b2).mono ?_ | refine (ka0 hs.b3).mono ?_ | refine (ka0 hs.b4).mono ?_ | refine (ka0 hs.b5).mono ?_ | refine (ka0 hs.b6).mono ?_ | refine (ka0 hs.b7).mono ?_ | refine (ka0 hs.b8).mono ?_); clear hs; rintro e w ⟨rfl, hs⟩) | (go_at_call 11; (first | refine (ka1 hs.b0).mono ?_ | refine (ka1 hs.b1).mono ?_ | refine (ka1 hs.b2).mono ?_ | refine (ka1 hs.b3).mono ?_ | refine (ka1 hs.b4).mono ?_ | refine (ka1 hs.b5).mono ?_ | refine (ka1 hs.b6).mono ?_ | refine (ka1 hs.b7).mono ?_ | refine (ka1 hs.b8).mono ?_); clear hs; rintro e w ⟨rfl, hs⟩) | (go_at_call 18; (first | refine (km0 hs.b0).mono ?_ | refine (km0 hs.b1).mono ?_ | refine (km0 hs.b2).mono ?_ | refine (km0 hs.b3).mono ?_ | refine (km0 hs.b4).mono ?_ | refine (km0 hs.b5).mono ?_ | refine (km0 hs.b6).mono ?_ | refine (km0 hs.b7).mono ?_ | refine (km0 hs.b8).mono ?_); clear hs; rintro e w ⟨rfl, hs⟩) | (go_at_call 18; (first | refine (km1 hs.b0).mono ?_ | refine (km1 hs.b1).mono ?_ | refine (km1 hs.b2).mono ?_ | refine (km1 hs.b3).mono ?_ | refine (km1 hs.b4).mono ?_ | refine (km1 hs.b5).mono ?_ | refine (km1 hs.b6).mono ?_ | refine (km1 hs.b7).mono ?_ | refine (km1 hs.b8).mono ?_); clear hs; rintro e w ⟨rfl, hs⟩) | (go_at_call 18; (first | refine (km2 hs.b0).mono ?_ | refine (km2 hs.b1).mono ?_ | refine (km2 hs.b2).mono ?_ | refine (km2 hs.b3).mono ?_ | refine (km2 hs.b4).mono ?_ | refine (km2 hs.b5).mono ?_ | refine (km2 hs.b6).mono ?_ | refine (km2 hs.b7).mono ?_ | refine (km2 hs.b8).mono ?_); clear hs; rintro e w ⟨rfl, hs⟩) | (go_at_call 18; (first | refine (km3 hs.b0).mono ?_ | refine (km3 hs.b1).mono ?_ | refine (km3 hs.b2).mono ?_ | refine (km3 hs.b3).mono ?_ | refine (km3 hs.b4).mono ?_ | refine (km3 hs.b5).mono ?_ | refine (km3 hs.b6).mono ?_ | refine (km3 hs.b7).mono ?_ | refine (km3 hs.b8).mono ?_); clear hs; rintro e w ⟨rfl, hs⟩) | (first | ((with_reducible apply ldo hs.b0); exact rfl; exact rfl; exact rfl; exact HG.out; exact one23) | ((with_reducible apply ldo hs.b1); exact rfl; exact rfl; exact rfl; exact HG.out; exact one23) | ((with_reducible apply ldo hs.b2); exact rfl; exact rfl; exact rfl; exact HG.out; exact one23) | ((with_reducible apply ldo hs.b3); exact rfl; exact rfl; exact rfl; exact HG.out; exact one23) | ((with_reducible apply ldo hs.b4); exact rfl; exact rfl; exact rfl; exact HG.out; exact one23) | ((with_reducible apply ldo hs.b5); exact rfl; exact rfl; exact rfl; exact HG.out; exact one23) | ((with_reducible apply ldo hs.b6); exact rfl; exact rfl; exact rfl; exact HG.out; exact one23) | ((with_reducible apply ldo hs.b7); exact rfl; exact rfl; exact rfl; exact HG.out; exact one23) | ((with_reducible apply ldo hs.b8); exact rfl; exact rfl; exact rfl; exact HG.out; exact one23)) | ((with_reducible refine isl ?_); first | ((with_reducible apply stsw hs.b0); exact rfl; exact rfl; exact rfl; exact rfl; exact row36; exact rfl; exact rfl; exact rfl; clear hs; intro w hs) | ((with_reducible apply stsw hs.b0); exact rfl; exact rfl; exact rfl; exact rfl; exact row25; exact rfl; exact rfl; exact rfl; clear hs; intro w hs) | ((with_reducible apply ld hs.b0); exact rfl; exact rfl; exact rfl; exact rfl; kernel_rfl) | ((with_reducible apply ld hs.b1); exact rfl; exact rfl; exact rfl; exact rfl; kernel_rfl) | ((with_reducible apply ld hs.b2); exact rfl; exact rfl; exact rfl; exact rfl; kernel_rfl) | ((with_reducible apply ld hs.b3); exact rfl; exact rfl; exact rfl; exact rfl; kernel_rfl) | ((with_reducible apply ld hs.b4); exact rfl; exact rfl; exact rfl; exact rfl; kernel_rfl) | ((with_reducible apply ld hs.b5); exact rfl; exact rfl; exact rfl; exact rfl; kernel_rfl) | ((with_reducible apply ld hs.b6); exact rfl; exact rfl; exact rfl; exact rfl; kernel_rfl) | ((with_reducible apply ld hs.b7); exact rfl; exact rfl; exact rfl; exact rfl; kernel_rfl) | ((with_reducible apply ld hs.b8); exact rfl; exact rfl; exact rfl; exact rfl; kernel_rfl) | ((with_reducible apply st hs.b0); exact rfl; exact rfl; exact rfl; exact rfl; exact rfl; exact rfl; kernel_rfl; exact rfl; clear hs; intro w hs) | ((with_reducible apply st hs.b1); exact rfl; exact rfl; exact rfl; exact rfl; exact rfl; exact rfl; kernel_rfl; exact rfl; clear hs; intro w hs) | ((with_reducible apply st hs.b2); exact rfl; exact rfl; exact rfl; exact rfl; exact rfl; exact rfl; kernel_rfl; exact rfl; clear hs; intro w hs) | ((with_reducible apply st hs.b3); exact rfl; exact rfl; exact rfl; exact rfl; exact rfl; exact rfl; kernel_rfl; exact rfl; clear hs; intro w hs) | ((with_reducible apply st hs.b4); exact rfl; exact rfl; exact rfl; exact rfl; exact rfl; exact rfl; kernel_rfl; exact rfl; clear hs; intro w hs) | ((with_reducible apply st hs.b5); exact rfl; exact rfl; exact rfl; exact rfl; exact rfl; exact rfl; kernel_rfl; exact rfl; clear hs; intro w hs) | ((with_reducible apply st hs.b6); exact rfl; exact rfl; exact rfl; exact rfl; exact rfl; exact rfl; kernel_rfl; exact rfl; clear hs; intro w hs) | ((with_reducible apply st hs.b7); exact rfl; exact rfl; exact rfl; exact rfl; exact rfl; exact rfl; kernel_rfl; exact rfl; clear hs; intro w hs) | ((with_reducible apply st hs.b8); exact rfl; exact rfl; exact rfl; exact rfl; exact rfl; exact rfl; kernel_rfl; exact rfl; clear hs; intro w hs) | ((with_reducible apply stc hs.b0); exact rfl; exact rfl; exact rfl; exact rfl; exact rfl; kernel_rfl; exact rfl; clear hs; intro w hs) | ((with_reducible apply stc hs.b1); exact rfl; exact rfl; exact rfl; exact rfl; exact rfl; kernel_rfl; exact rfl; clear hs; intro w hs) | ((with_reducible apply stc hs.b2); exact rfl; exact rfl; exact rfl; exact rfl; exact rfl; kernel_rfl; exact rfl; clear hs; intro w hs) | ((with_reducible apply stc hs.b3); exact rfl; exact rfl; exact rfl; exact rfl; exact rfl; kernel_rfl; exact rfl; clear hs; intro w hs) | ((with_reducible apply stc hs.b4); exact rfl; exact rfl; exact rfl; exact rfl; exact rfl; kernel_rfl; exact rfl; clear hs; intro w hs) | ((with_reducible apply stc hs.b5); exact rfl; exact rfl; exact rfl; exact rfl; exact rfl; kernel_rfl; exact rfl; clear hs; intro w hs) | ((with_reducible apply stc hs.b6); exact rfl; exact rfl; exact rfl; exact rfl; exact rfl; kernel_rfl; exact rfl; clear hs; intro w hs) | ((with_reducible apply stc hs.b7); exact rfl; exact rfl; exact rfl; exact rfl; exact rfl; kernel_rfl; exact rfl; clear hs; intro w hs) | ((with_reducible apply stc hs.b8); exact rfl; exact rfl; exact rfl; exact rfl; exact rfl; kernel_rfl; exact rfl; clear hs; intro w hs) | ((with_reducible refine wrap hs ?_); clear hs; intro w hs) | ((with_reducible refine wrapn hs ?_); clear hs; intro w hs) | ((with_reducible refine wrapd hs ?_); clear hs; intro w hs)))
  go_ret
  exact ⟨rfl, by (first | exact hs.dropN 0 | exact hs.dropN 1 | exact hs.dropN 2 | exact hs.dropN 3 | exact hs.dropN 4 | exact hs.dropN 5 | exact hs.dropN 6 | exact hs.dropN 7 | exact hs.dropN 8 | exact hs.dropN 9 | exact hs.dropN 10 | exact hs.dropN 11 | exact hs.dropN 12 | exact hs.dropN 13 | exact hs.dropN 14 | exact hs.dropN 15)⟩
end Go.Proofs.Ytinfgebdcjaabaa
