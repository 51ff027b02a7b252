/- Law 04: rows of acts that are alike. -/
import Derived.Test.YtojgdpccjlgmiaaK14
namespace Go.Proofs.Ytojgdpccjlgmiaa
open Go.RowKit Go.Mem Go.Parse
variable {W w : World} {H : List HProp}
theorem acl_rows : ∀ {l : List Ac} {L : List (List Value)} {H : List HProp}, sat W (acl l L :: H) w → L.length = l.length ∧ ∀ r ∈ L, r.length = 7
  | [], [], _, _ => ⟨rfl, fun u hu => (List.not_mem_nil hu).elim⟩
  | [], _ :: _, _, hs => by
    have hs : sat W (pur False :: _) w := hs
    exact hs.pure.elim
  | _ :: _, [], _, hs => by
    have hs : sat W (pur False :: _) w := hs
    exact hs.pure.elim
  | x :: l, c :: L, _, hs => by
    have hs : sat W (star (acO x c) (acl l L) :: _) w := hs
    have hs := hs.unstar
    obtain ⟨ih1, ih2⟩ := acl_rows hs.b1
    obtain ⟨_, _, _, _, _, _, e, _⟩ := acO_reads hs
    refine ⟨by rw [List.length_cons, List.length_cons, ih1], fun r hr => ?_⟩
    rcases List.mem_cons.1 hr with rfl | hr
    · rw [e]; rfl
    · exact ih2 r hr
attribute [local irreducible] World.setCell World.setCells World.alloc World.drew World.drewN Calls sat cel own blk old wpQuiet wpList pm values digit next acs
variable {b : Nat} {st pr : Int} {L : PL} {I T : List Int} {ov : Bool} {p : Ps} {H : List HProp}
theorem same10 {a1 a2 : Option Addr} {c1 c2 n : Nat} {l : List Ac} (hl : l.length = n) (hn : n ≤ 100000) (hs : sat W (acs (.slice a1 n c1) l :: acs (.slice a2 n c2) l :: H) w) :
    Calls Try.prog 10 #[.slice a1 n c1, .slice a2 n c2] w fun e w' => e = .returned (.bool true) ∧ sat W (acs (.slice a1 n c1) l :: acs (.slice a2 n c2) l :: H) w' := by
  obtain ⟨L1, k1⟩ := sat.acs_open hs
  clear hs
  obtain ⟨L2, k2⟩ := sat.acs_open k1.b2
  clear k1
  rw [hl] at k2
  have hs : sat W (own 33 7 (.slice a1 n c1) n L1.flatten :: acl l L1 :: own 33 7 (.slice a2 n c2) n L2.flatten :: acl l L2 :: H) w := by (refine sb_from ?_ k2; repeat constructor)
  clear k2
  have R1 := acl_rows hs.b1
  have R2 := acl_rows hs.b3
  have S1 : SR 7 W (own 33 7 (.slice a1 n c1) n L1.flatten :: acl l L1 :: own 33 7 (.slice a2 n c2) n L2.flatten :: acl l L2 :: H) a1 n c1 L1 := SR.of_own hs (by decide) R1.2
  have S2 : SR 7 W (own 33 7 (.slice a1 n c1) n L1.flatten :: acl l L1 :: own 33 7 (.slice a2 n c2) n L2.flatten :: acl l L2 :: H) a2 n c2 L2 := (SR.of_own hs.b2 (by decide) R2.2).mono fun w' h => h.b2
  have D1 : ∀ (i : Nat) (x : Ac), l[i]? = some x → ∃ c, L1[i]? = some c ∧ RdA W (own 33 7 (.slice a1 n c1) n L1.flatten :: acl l L1 :: own 33 7 (.slice a2 n c2) n L2.flatten :: acl l L2 :: H) x c := fun i x hx => acl_rda (fun w' h => ⟨_, h.b1⟩) hs hx
  have D2 : ∀ (i : Nat) (x : Ac), l[i]? = some x → ∃ c, L2[i]? = some c ∧ RdA W (own 33 7 (.slice a1 n c1) n L1.flatten :: acl l L1 :: own 33 7 (.slice a2 n c2) n L2.flatten :: acl l L2 :: H) x c := fun i x hx => acl_rda (fun w' h => ⟨_, h.b3⟩) hs hx
  have back : ∀ w', sat W (own 33 7 (.slice a1 n c1) n L1.flatten :: acl l L1 :: own 33 7 (.slice a2 n c2) n L2.flatten :: acl l L2 :: H) w' → sat W (acs (.slice a1 n c1) l :: acs (.slice a2 n c2) l :: H) w' := fun w' h => by
    have h1 : sat W (own 33 7 (.slice a2 n c2) l.length L2.flatten :: acl l L2 :: own 33 7 (.slice a1 n c1) n L1.flatten :: acl l L1 :: H) w' := by rw [hl]; (refine sb_from ?_ h; repeat constructor)
    have h2 := sat.acs_mk rfl h1
    have h3 : sat W (own 33 7 (.slice a1 n c1) l.length L1.flatten :: acl l L1 :: acs (.slice a2 n c2) l :: H) w' := by rw [hl]; (refine sb_from ?_ h2; repeat constructor)
    exact sat.acs_mk rfl h3
  generalize (own 33 7 (.slice a1 n c1) n L1.flatten :: acl l L1 :: own 33 7 (.slice a2 n c2) n L2.flatten :: acl l L2 :: H) = HH at hs S1 S2 D1 D2 back
  have HS1 := Lib.hid S1
  have HS2 := Lib.hid S2
  have HD1 := Lib.hid D1
  have HD2 := Lib.hid D2
  have HB := Lib.hid back
  have HL := Lib.hid hl
  clear S1 S2 D1 D2 back hl R1 R2
  go_enter Try.func10, Try.ntmps10
  go_wp2_with fail
  go_loopw [5] (fun i wr => ∃ j : Nat, j ≤ n ∧ i = .int .i64 (j : Int) ∧ sat W HH wr) (fun i _ => ((n : Int) - intOf i).toNat)
  case atStart => exact ⟨0, Nat.zero_le _, rfl, hs⟩
  case round =>
    clear hs
    obtain ⟨j, hj, rfl, hs⟩ := hrel
    by_cases hjn : j < n
    · obtain ⟨x, hx⟩ : ∃ x, l[j]? = some x := ⟨_, List.getElem?_eq_getElem (by rw [HL.out]; exact hjn)⟩
      obtain ⟨r1, hr1, hd1⟩ := HD1.out j x hx
      obtain ⟨r2, hr2, hd2⟩ := HD2.out j x hx
      obtain ⟨hz1, b1, o1, rfl, hc1⟩ := HS1.out.get hs hr1
      obtain ⟨hz2, b2, o2, rfl, hc2⟩ := HS2.out.get hs hr2
      have HZ1 : Hid (rowTy Try.prog 33 r1.length = true) := Lib.hid (by rw [hz1]; exact row33)
      have HZ2 : Hid (rowTy Try.prog 33 r2.length = true) := Lib.hid (by rw [hz2]; exact row33)
      clear hz1 hz2
      have HC1 := Lib.hid hc1
      have HC2 := Lib.hid hc2
      have HR1 := Lib.hid hd1
      have HR2 := Lib.hid hd2
      clear hx hr1 hr2 hc1 hc2 hd1 hd2
      go_wp2_with fail
      refine region_mix [([0, 1, 2, 3, 4, 5, 6, 7], [8])] [9] hs (fun _ h => h) (by kernel_rfl) (by kernel_rfl) (fun _ _ _ _ _ h => h) ?_
      simp only [segs, nths, nth, List.append_nil, List.nil_append, List.cons_append, List.map_cons, List.map_nil]
      refine seg_reads (fun _ h => h) ?_; intro X f hne hf hcl; (try simp only [Act.put, List.setIfInBounds_toArray, List.set_cons_succ, List.set_cons_zero]); (repeat ((first | ((with_reducible apply ldscq (cs := r1)); exact rfl; exact rfl; exact rfl; exact fun y => HC1.out _ (hf y); exact HZ1.out) | ((with_reducible apply ldscq (cs := r2)); exact rfl; exact rfl; exact rfl; exact fun y => HC2.out _ (hf y); exact HZ2.out) | go_big_quiet_step (fail)); (try simp only [Act.put, List.setIfInBounds_toArray, List.set_cons_succ, List.set_cons_zero]))); refine wpQuiet_nil ?_; clear hcl hf hne hs f X; intro w hs
      go_wp2_with (first | (go_at_call 11; refine (sameact11 HR1.out HR2.out hs).mono ?_; clear hs; rintro e w ⟨rfl, hs⟩) | ((with_reducible refine isl ?_); first | ((with_reducible refine wrap hs ?_); clear hs; intro w hs) | ((with_reducible refine wrapn hs ?_); clear hs; intro w hs) | ((with_reducible refine wrapd hs ?_); clear hs; intro w hs)))
      (first | (refine seg_on hs (by first | exact fun _ h => h | exact fun _ h => h.drop | exact fun _ h => h.drop.drop | exact fun _ h => h.drop.drop.drop) (fun _ h => h) ?_; clear hs; intro hs) | (refine seg_on hs.made (by first | exact fun _ h => h | exact fun _ h => h.drop | exact fun _ h => h.drop.drop | exact fun _ h => h.drop.drop.drop) (fun _ h => h) ?_; clear hs; intro hs) | (refine seg_on hs.drew (by first | exact fun _ h => h | exact fun _ h => h.drop | exact fun _ h => h.drop.drop | exact fun _ h => h.drop.drop.drop) (fun _ h => h) ?_; clear hs; intro hs) | (refine seg_on hs.drew.made (by first | exact fun _ h => h | exact fun _ h => h.drop | exact fun _ h => h.drop.drop | exact fun _ h => h.drop.drop.drop) (fun _ h => h) ?_; clear hs; intro hs) | (refine seg_on (hs.drewN _) (by first | exact fun _ h => h | exact fun _ h => h.drop | exact fun _ h => h.drop.drop | exact fun _ h => h.drop.drop.drop) (fun _ h => h) ?_; clear hs; intro hs))
      refine seg_last (fun _ h => h) ?_; intro X f hne hf hcl; (try simp only [Act.put, List.setIfInBounds_toArray, List.set_cons_succ, List.set_cons_zero]); (repeat ((first | ((with_reducible apply ldscq (cs := r1)); exact rfl; exact rfl; exact rfl; exact fun y => HC1.out _ (hf y); exact HZ1.out) | ((with_reducible apply ldscq (cs := r2)); exact rfl; exact rfl; exact rfl; exact fun y => HC2.out _ (hf y); exact HZ2.out) | go_big_quiet_step (fail)); (try simp only [Act.put, List.setIfInBounds_toArray, List.set_cons_succ, List.set_cons_zero]))); refine wpQuiet_nil ?_; clear hcl hf hne hs f X; intro w hs
      go_wp2_with fail
      go_roundw
      case rel => exact ⟨j + 1, by omega, by go_num, hs⟩
      case measure => simp [intOf]; omega
    · have hjn2 : j = n := by omega
      obtain rfl : n = j := hjn2.symm
      go_wp2_with fail
      go_ret
      exact ⟨rfl, HB.out _ hs⟩
end Go.Proofs.Ytojgdpccjlgmiaa
