/- Law 04: ParserActs, the walk. -/
import Derived.Test.YtojgdpccjlgmiaaK19
namespace Go.Proofs.Ytojgdpccjlgmiaa
open Go.RowKit Go.Mem Go.Parse
variable {W w : World} {H : List HProp}
theorem rda_of {x : Ac} {c : List Value} {aP aI aT : Option Addr} {cP cI cT nP nI nT : Nat} (hP : x.params.length = nP) (hI : x.inter.length = nI) (hT : x.text.length = nT) (hc : c = acC x (.slice aP nP cP) (.slice aI nI cI) (.slice aT nT cT))
    (h : ∀ w', sat W H w' → Reads w' (.slice aP nP cP) (ints x.params) ∧ Reads w' (.slice aI nI cI) (runes x.inter) ∧ Reads w' (.slice aT nT cT) (runes x.text)) : RdA W H x c := by
  subst hP hI hT
  exact ⟨aP, aI, aT, cP, cI, cT, hc, h⟩
theorem reads_nil (w : World) : Reads w (.slice none 0 0) [] := ⟨Nat.zero_le _, none, 0, rfl, fun h => (h rfl).elim⟩
attribute [local irreducible] World.setCell World.setCells World.alloc World.drew World.drewN Calls sat cel own blk old wpQuiet wpList pm values digit next acs
variable {b : Nat} {st pr : Int} {L : PL} {I T : List Int} {ov : Bool} {p : Ps} {H : List HProp}
attribute [local irreducible] told feed Parse.run fix leave
theorem guard4 {a1 : Option Addr} {n1 c1 : Nat} (h : 400 < n1) (hs : sat W H w) : Calls Try.prog 4 #[.slice a1 n1 c1] w fun e w' => e = .returned (.bool true) ∧ sat W H w' := by
  have g : decide ((400 : Int) < (n1 : Int)) = true := decide_eq_true (by omega)
  clear h
  go_enter Try.func4, Try.ntmps4
  go_wp2_with (first | (go_at_call 6; refine (known6 hs).mono ?_; clear hs; rintro e w ⟨rfl, hs⟩) | ((with_reducible refine isl ?_); first | ((with_reducible refine wrap hs ?_); clear hs; intro w hs) | ((with_reducible refine wrapn hs ?_); clear hs; intro w hs) | ((with_reducible refine wrapd hs ?_); clear hs; intro w hs)))
  go_ret
  exact ⟨rfl, hs⟩
set_option maxHeartbeats 8000000 in
set_option maxRecDepth 8000 in
theorem acts4 {a1 : Option Addr} {n1 c1 : Nat} {l : List Int} (hl : SR 1 W H a1 n1 c1 (l.map fun x => [.int .i32 x])) (h1 : n1 ≤ 400) (hs : sat W H w) :
    Calls Try.prog 4 #[.slice a1 n1 c1] w fun e w' => e = .returned (.bool true) ∧ sat W H w' := by
  have HL := Lib.hid hl
  clear hl
  have g : decide ((400 : Int) < (n1 : Int)) = false := decide_eq_false (by omega)
  go_enter Try.func4, Try.ntmps4
  go_wp2_with (first | (go_at_call 7; refine (new7 hs).mono ?_; clear hs; rintro e w ⟨z2, rfl, hs⟩) | ((with_reducible refine isl ?_); first | ((with_reducible refine wrap hs ?_); clear hs; intro w hs) | ((with_reducible refine wrapn hs ?_); clear hs; intro w hs) | ((with_reducible refine wrapd hs ?_); clear hs; intro w hs)))
  go_loopw [18] (fun i wr => ∃ (j : Nat) (q : Ps), j ≤ n1 ∧ i = .int .i64 (j : Int) ∧ Hid (q.ok) ∧ sat W (prs z2 q :: H) wr) (fun i _ => ((n1 : Int) - intOf i).toNat)
  case atStart => exact ⟨0, _, Nat.zero_le _, rfl, Lib.hid Ps.new_ok, hs⟩
  case round =>
    clear hs
    obtain ⟨j, q, hj, rfl, HQ, hs⟩ := hrel
    by_cases hjn : j < n1
    · obtain ⟨x, hx, b1, o1, rfl, hc⟩ := HL.out.getb (hs.dropN 1) hjn
      have hc := hc _ (hs.dropN 1)
      obtain ⟨q', X, hX⟩ : ∃ q' X, feed q x = (q', X) := ⟨_, _, rfl⟩
      obtain ⟨k, hk⟩ : ∃ k, X.length = k := ⟨_, rfl⟩
      have HX := Lib.hid hX
      have HK := Lib.hid hk
      have len : k ≤ 2 := by have := (feed_acts HQ.out x).2; rw [hX] at this; simp only at this; omega
      have HA : Hid (∀ y ∈ X, y.ok) := Lib.hid (by have := (feed_acts HQ.out x).1; rw [hX] at this; exact this)
      have HQ2 : Hid (q'.ok) := Lib.hid (by have := feed_ok HQ.out x; rw [hX] at this; exact this)
      have hst : q'.st ≤ 13 := HQ2.out.st
      have gk : decide ((2 : Int) < (k : Int)) = false := decide_eq_false (by omega)
      have gs : decide ((13 : Int) < (q'.st : Int)) = false := decide_eq_false (by omega)
      obtain ⟨gb, hgb⟩ : ∃ gb : Bool, ((q.st : Int) == 0) = gb := ⟨_, rfl⟩
      clear hx hX hk
      go_upto_region 11 with (first | (go_at_call 9; refine (state9 HQ.out hs).mono ?_; clear hs hc; rintro e w ⟨rfl, hs⟩) | (go_at_call 9; refine (state9 HQ.out hs).mono ?_; clear hs; rintro e w ⟨rfl, hs⟩) | (go_at_call 8; refine (feed8_as HX.out HK.out HQ.out hs).mono ?_; clear hs; rintro e w ⟨a5, c5, rfl, hs⟩) | (go_at_call 9; refine (state9 HQ2.out hs.b1).mono ?_; clear hs; rintro e w ⟨rfl, hs⟩; replace hs := hs.b1) | ((with_reducible refine isl ?_); first | ((with_reducible refine wrap hs ?_); clear hs; intro w hs) | ((with_reducible refine wrapn hs ?_); clear hs; intro w hs) | ((with_reducible refine wrapd hs ?_); clear hs; intro w hs)))
      go_cut [64] (fun v wx => v = .bool false ∧ sat W (acs (.slice a5 k c5) X :: prs z2 q' :: H) wx)
      case first =>
        have HGB := Lib.hid hgb
        clear hgb
        cases gb with
        | true =>
          have hg : q.st = 0 := by have := HGB.out; simp at this; omega
          by_cases h160 : 160 ≤ x
          · by_cases hmax : x ≤ 1114111
            · have hX2 := HX.out
              rw [feed_ground hg h160 hmax] at hX2
              obtain ⟨hq, hXX⟩ : q = q' ∧ prnt x = X := by cases hX2; exact ⟨rfl, rfl⟩
              have hk1 : k = 1 := by rw [← HK.out, ← hXX]; rfl
              have k1a : 1 ≤ k := by omega
              have k1b : k ≤ 1 := by omega
              have gk1 : ((k : Int) != 1) = false := by simp; omega
              obtain ⟨L, k1⟩ := sat.acs_open hs
              rw [HK.out] at k1
              have HB : Hid (∀ w', sat W (own 33 7 (.slice a5 k c5) k L.flatten :: acl X L :: prs z2 q' :: H) w' → sat W (acs (.slice a5 k c5) X :: prs z2 q' :: H) w') := Lib.hid fun w' h => sat.acs_mk rfl (by rw [HK.out]; exact h)
              have hrow := acl_rows k1.b1
              have hg0 : X[0]? = some ⟨1, x, 0, [], [], 0, []⟩ := by rw [← hXX]; rfl
              obtain ⟨cc, hcc, hO⟩ := acl_get k1.b1 hg0
              obtain ⟨_, _, _, _, _, _, ecc, _⟩ := acO_reads hO
              have hL : L = [cc] := by
                have h1 := hrow.1
                rw [HK.out, hk1] at h1
                match L, h1, hcc with
                | [y], _, h => simp at h; rw [h]
              have F0 : Hid (L.flatten[0]? = some (.int .u8 1)) := Lib.hid (by rw [hL, ecc]; rfl)
              have F1 : Hid (L.flatten[1]? = some (.int .i32 x)) := Lib.hid (by rw [hL, ecc]; rfl)
              clear hs hX2 hXX hq hk1 hrow hg0 hcc hO ecc hL
              have hs := k1
              clear k1
              obtain ⟨gg, ce, e⟩ := hs.own_some (by omega)
              cases e
              go_wp2_with (first | ((with_reducible refine isl ?_); first | ((with_reducible apply ldo hs.b0); exact rfl; exact rfl; exact rfl; exact F0.out; exact one5) | ((with_reducible apply ldo hs.b0); exact rfl; exact rfl; exact rfl; exact F1.out; exact one21) | ((with_reducible refine wrap hs ?_); clear hs; intro w hs) | ((with_reducible refine wrapn hs ?_); clear hs; intro w hs) | ((with_reducible refine wrapd hs ?_); clear hs; intro w hs)))
              go_meet
              case rel => exact ⟨rfl, HB.out _ hs⟩
            · go_wp2_with fail
              go_meet
              case rel => exact ⟨rfl, hs⟩
          · go_wp2_with fail
            go_meet
            case rel => exact ⟨rfl, hs⟩
        | false =>
          go_wp2_with fail
          go_meet
          case rel => exact ⟨rfl, hs⟩
      case rest =>
      clear hs
      obtain ⟨rfl, hs⟩ := hcut
      have HGB := Lib.hid hgb
      clear hgb
      obtain ⟨L, k1⟩ := sat.acs_open hs
      clear hs
      rw [HK.out] at k1
      have R1 := acl_rows k1.b1
      have S1 : SR 7 W (own 33 7 (.slice a5 k c5) k L.flatten :: acl X L :: prs z2 q' :: H) a5 k c5 L := SR.of_own k1 (by decide) R1.2
      have D1 : ∀ (i : Nat) (y : Ac), X[i]? = some y → ∃ c, L[i]? = some c ∧ RdA W (own 33 7 (.slice a5 k c5) k L.flatten :: acl X L :: prs z2 q' :: H) y c := fun i y hy => acl_rda (fun w' h => ⟨_, h.b1⟩) k1 hy
      have back : ∀ w', sat W (own 33 7 (.slice a5 k c5) k L.flatten :: acl X L :: prs z2 q' :: H) w' → sat W (prs z2 q' :: H) w' := fun w' h => h.drop.drop
      generalize (own 33 7 (.slice a5 k c5) k L.flatten :: acl X L :: prs z2 q' :: H) = HH at k1 S1 D1 back
      have HS1 := Lib.hid S1
      have HD1 := Lib.hid D1
      have HB := Lib.hid back
      have hs := k1
      clear k1 S1 D1 back R1
      go_wp2_with fail
      go_loopw [67] (fun i wr => ∃ m : Nat, m ≤ k ∧ i = .int .i64 (m : Int) ∧ sat W HH wr) (fun i _ => ((k : Int) - intOf i).toNat)
      case atStart => exact ⟨0, Nat.zero_le _, rfl, hs⟩
      case round =>
        clear hs
        obtain ⟨m, hm, rfl, hs⟩ := hrel
        by_cases hmk : m < k
        · obtain ⟨y, hy⟩ : ∃ y, X[m]? = some y := ⟨_, List.getElem?_eq_getElem (by rw [HK.out]; exact hmk)⟩
          obtain ⟨r1, hr1, hd1⟩ := HD1.out m y hy
          obtain ⟨hz1, b2, off2, rfl, hc2⟩ := HS1.out.get hs hr1
          obtain ⟨kk, rr, priv, params, inter, final, text⟩ := y
          have hok : Ac.ok ⟨kk, rr, priv, params, inter, final, text⟩ := HA.out _ (List.mem_of_getElem? hy)
          obtain ⟨aP, aI, aT, cP, cI, cT, rfl, rd⟩ := hd1
          obtain ⟨⟨o1a, o1b⟩, o2, o3, o4, o5, ⟨m1, m2, m3⟩, o7⟩ := hok
          simp only at o1a o1b o2 o3 o4 o5 m1 m2 m3 o7 rd hc2
          obtain ⟨nP, hP⟩ : ∃ n, params.length = n := ⟨_, rfl⟩
          obtain ⟨nI, hI⟩ : ∃ n, inter.length = n := ⟨_, rfl⟩
          obtain ⟨nT, hT⟩ : ∃ n, text.length = n := ⟨_, rfl⟩
          rw [hP, hI, hT] at rd
          rw [hP] at m1
          rw [hI] at m2
          rw [hT] at m3
          have hc3 : ∀ w', sat W HH w' → w'.rangeAt b2 (off2 + m * 7) (acC ⟨kk, rr, priv, params, inter, final, text⟩ (.slice aP nP cP) (.slice aI nI cI) (.slice aT nT cT)) := by rw [← hP, ← hI, ← hT]; exact hc2
          have RD := Lib.hid rd
          have HC := Lib.hid hc3
          have HP := Lib.hid hP
          have HI := Lib.hid hI
          have HT := Lib.hid hT
          have gP : decide ((32 : Int) < (nP : Int)) = false := decide_eq_false (by omega)
          have gI : decide ((2 : Int) < (nI : Int)) = false := decide_eq_false (by omega)
          have gT : decide ((1024 : Int) < (nT : Int)) = false := decide_eq_false (by omega)
          clear hy hr1 hz1 hc2 hc3 rd hP hI hT m1 m2 m3
          unfold acC at HC
          have hkk : kk = 1 ∨ kk = 2 ∨ kk = 3 ∨ kk = 4 ∨ kk = 5 ∨ kk = 6 := by omega
          rcases hkk with rfl | rfl | rfl | rfl | rfl | rfl
          · -- kind 1
            obtain ⟨rfl, rfl⟩ : priv = 0 ∧ params = [] := o3 (by decide) (by decide)
            obtain ⟨rfl, rfl⟩ : inter = [] ∧ final = 0 := o4 (by decide) (by decide) (by decide)
            obtain rfl : text = [] := o5 (by decide)
            have HX1 : Hid (RdA W HH ⟨1, rr, 0, [], [], 0, []⟩ (acC ⟨1, rr, 0, [], [], 0, []⟩ (.slice aP nP cP) (.slice aI nI cI) (.slice aT nT cT))) := Lib.hid (rda_of HP.out HI.out HT.out rfl RD.out)
            have HX2 : Hid (RdA W HH ⟨1, rr, 0, [], [], 0, []⟩ (acC ⟨1, rr, 0, [], [], 0, []⟩ (.slice none 0 0) (.slice none 0 0) (.slice none 0 0))) := Lib.hid (rda_of rfl rfl rfl rfl fun w' h => ⟨reads_nil w', reads_nil w', reads_nil w'⟩)
            unfold acC at HX1 HX2
            have h32 := o7 rfl
            clear o1a o1b o2 o3 o4 o5 o7
            have g98 : decide (rr < 32) = false := decide_eq_false (by omega)
            rcases h32.2 with h99 | h99
            · have g97 : decide (127 ≤ rr) = false := decide_eq_false (by omega)
              clear h32 h99
              go_wp2_with (first | (go_at_call 11; refine (sameact11 HX1.out.more.more HX2.out.more.more hs).mono ?_; clear hs; rintro e w ⟨rfl, hs⟩) | ((have _t := z9; clear _t); refine wrap hs ?_; clear hs; generalize w.heap.size = z10; intro w hs) | ((with_reducible refine isl ?_); first | ((with_reducible apply ldsc ); exact rfl; exact rfl; exact rfl; exact HC.out _ hs; exact row33) | ((with_reducible apply stsw hs.b0); exact rfl; exact rfl; exact rfl; exact rfl; exact row33; exact rfl; exact rfl; exact rfl; clear hs; intro w hs) | ((with_reducible apply stsw hs.b1); exact rfl; exact rfl; exact rfl; exact rfl; exact row33; exact rfl; exact rfl; exact rfl; clear hs; intro w hs) | ((with_reducible apply ldsw hs.b0); exact rfl; exact rfl; exact rfl; exact row33) | ((with_reducible apply ldsw hs.b1); exact rfl; exact rfl; exact rfl; exact row33) | ((with_reducible refine wrap hs ?_); clear hs; generalize wr.heap.size = z9; intro w hs) | ((with_reducible apply ld hs.b0); exact rfl; exact rfl; exact rfl; exact rfl; kernel_rfl) | ((with_reducible apply ld hs.b1); exact rfl; exact rfl; exact rfl; exact rfl; kernel_rfl) | ((with_reducible apply st hs.b0); exact rfl; exact rfl; exact rfl; exact rfl; exact rfl; exact rfl; kernel_rfl; exact rfl; clear hs; intro w hs) | ((with_reducible apply st hs.b1); exact rfl; exact rfl; exact rfl; exact rfl; exact rfl; exact rfl; kernel_rfl; exact rfl; clear hs; intro w hs) | ((with_reducible apply stc hs.b0); exact rfl; exact rfl; exact rfl; exact rfl; exact rfl; kernel_rfl; exact rfl; clear hs; intro w hs) | ((with_reducible apply stc hs.b1); exact rfl; exact rfl; exact rfl; exact rfl; exact rfl; kernel_rfl; exact rfl; clear hs; intro w hs) | ((with_reducible refine wrap hs ?_); clear hs; intro w hs) | ((with_reducible refine wrapn hs ?_); clear hs; intro w hs) | ((with_reducible refine wrapd hs ?_); clear hs; intro w hs)))
              go_roundw
              case rel => exact ⟨m + 1, by omega, by go_num, hs.dropN 2⟩
              case measure => simp [intOf]; omega
            · have g97 : decide (127 ≤ rr) = true := decide_eq_true (by omega)
              have g96 : decide (rr < 160) = false := decide_eq_false (by omega)
              clear h32 h99
              go_wp2_with (first | (go_at_call 11; refine (sameact11 HX1.out.more.more HX2.out.more.more hs).mono ?_; clear hs; rintro e w ⟨rfl, hs⟩) | ((have _t := z9; clear _t); refine wrap hs ?_; clear hs; generalize w.heap.size = z10; intro w hs) | ((with_reducible refine isl ?_); first | ((with_reducible apply ldsc ); exact rfl; exact rfl; exact rfl; exact HC.out _ hs; exact row33) | ((with_reducible apply stsw hs.b0); exact rfl; exact rfl; exact rfl; exact rfl; exact row33; exact rfl; exact rfl; exact rfl; clear hs; intro w hs) | ((with_reducible apply stsw hs.b1); exact rfl; exact rfl; exact rfl; exact rfl; exact row33; exact rfl; exact rfl; exact rfl; clear hs; intro w hs) | ((with_reducible apply ldsw hs.b0); exact rfl; exact rfl; exact rfl; exact row33) | ((with_reducible apply ldsw hs.b1); exact rfl; exact rfl; exact rfl; exact row33) | ((with_reducible refine wrap hs ?_); clear hs; generalize wr.heap.size = z9; intro w hs) | ((with_reducible apply ld hs.b0); exact rfl; exact rfl; exact rfl; exact rfl; kernel_rfl) | ((with_reducible apply ld hs.b1); exact rfl; exact rfl; exact rfl; exact rfl; kernel_rfl) | ((with_reducible apply st hs.b0); exact rfl; exact rfl; exact rfl; exact rfl; exact rfl; exact rfl; kernel_rfl; exact rfl; clear hs; intro w hs) | ((with_reducible apply st hs.b1); exact rfl; exact rfl; exact rfl; exact rfl; exact rfl; exact rfl; kernel_rfl; exact rfl; clear hs; intro w hs) | ((with_reducible apply stc hs.b0); exact rfl; exact rfl; exact rfl; exact rfl; exact rfl; kernel_rfl; exact rfl; clear hs; intro w hs) | ((with_reducible apply stc hs.b1); exact rfl; exact rfl; exact rfl; exact rfl; exact rfl; kernel_rfl; exact rfl; clear hs; intro w hs) | ((with_reducible refine wrap hs ?_); clear hs; intro w hs) | ((with_reducible refine wrapn hs ?_); clear hs; intro w hs) | ((with_reducible refine wrapd hs ?_); clear hs; intro w hs)))
              go_roundw
              case rel => exact ⟨m + 1, by omega, by go_num, hs.dropN 2⟩
              case measure => simp [intOf]; omega
          · -- kind 2
            obtain ⟨rfl, rfl⟩ : priv = 0 ∧ params = [] := o3 (by decide) (by decide)
            obtain ⟨rfl, rfl⟩ : inter = [] ∧ final = 0 := o4 (by decide) (by decide) (by decide)
            obtain rfl : text = [] := o5 (by decide)
            have HX1 : Hid (RdA W HH ⟨2, rr, 0, [], [], 0, []⟩ (acC ⟨2, rr, 0, [], [], 0, []⟩ (.slice aP nP cP) (.slice aI nI cI) (.slice aT nT cT))) := Lib.hid (rda_of HP.out HI.out HT.out rfl RD.out)
            have HX2 : Hid (RdA W HH ⟨2, rr, 0, [], [], 0, []⟩ (acC ⟨2, rr, 0, [], [], 0, []⟩ (.slice none 0 0) (.slice none 0 0) (.slice none 0 0))) := Lib.hid (rda_of rfl rfl rfl rfl fun w' h => ⟨reads_nil w', reads_nil w', reads_nil w'⟩)
            unfold acC at HX1 HX2
            clear o1a o1b o2 o3 o4 o5 o7
            go_wp2_with (first | (go_at_call 11; refine (sameact11 HX1.out.more.more HX2.out.more.more hs).mono ?_; clear hs; rintro e w ⟨rfl, hs⟩) | ((have _t := z9; clear _t); refine wrap hs ?_; clear hs; generalize w.heap.size = z10; intro w hs) | ((with_reducible refine isl ?_); first | ((with_reducible apply ldsc ); exact rfl; exact rfl; exact rfl; exact HC.out _ hs; exact row33) | ((with_reducible apply stsw hs.b0); exact rfl; exact rfl; exact rfl; exact rfl; exact row33; exact rfl; exact rfl; exact rfl; clear hs; intro w hs) | ((with_reducible apply stsw hs.b1); exact rfl; exact rfl; exact rfl; exact rfl; exact row33; exact rfl; exact rfl; exact rfl; clear hs; intro w hs) | ((with_reducible apply ldsw hs.b0); exact rfl; exact rfl; exact rfl; exact row33) | ((with_reducible apply ldsw hs.b1); exact rfl; exact rfl; exact rfl; exact row33) | ((with_reducible refine wrap hs ?_); clear hs; generalize wr.heap.size = z9; intro w hs) | ((with_reducible apply ld hs.b0); exact rfl; exact rfl; exact rfl; exact rfl; kernel_rfl) | ((with_reducible apply ld hs.b1); exact rfl; exact rfl; exact rfl; exact rfl; kernel_rfl) | ((with_reducible apply st hs.b0); exact rfl; exact rfl; exact rfl; exact rfl; exact rfl; exact rfl; kernel_rfl; exact rfl; clear hs; intro w hs) | ((with_reducible apply st hs.b1); exact rfl; exact rfl; exact rfl; exact rfl; exact rfl; exact rfl; kernel_rfl; exact rfl; clear hs; intro w hs) | ((with_reducible apply stc hs.b0); exact rfl; exact rfl; exact rfl; exact rfl; exact rfl; kernel_rfl; exact rfl; clear hs; intro w hs) | ((with_reducible apply stc hs.b1); exact rfl; exact rfl; exact rfl; exact rfl; exact rfl; kernel_rfl; exact rfl; clear hs; intro w hs) | ((with_reducible refine wrap hs ?_); clear hs; intro w hs) | ((with_reducible refine wrapn hs ?_); clear hs; intro w hs) | ((with_reducible refine wrapd hs ?_); clear hs; intro w hs)))
            go_roundw
            case rel => exact ⟨m + 1, by omega, by go_num, hs.dropN 2⟩
            case measure => simp [intOf]; omega
          · -- kind 3
            obtain rfl : rr = 0 := o2 (by decide) (by decide)
            obtain ⟨rfl, rfl⟩ : priv = 0 ∧ params = [] := o3 (by decide) (by decide)
            obtain rfl : text = [] := o5 (by decide)
            have HX1 : Hid (RdA W HH ⟨3, 0, 0, [], inter, final, []⟩ (acC ⟨3, 0, 0, [], inter, final, []⟩ (.slice aP nP cP) (.slice aI nI cI) (.slice aT nT cT))) := Lib.hid (rda_of HP.out HI.out HT.out rfl RD.out)
            have HX2 : Hid (RdA W HH ⟨3, 0, 0, [], inter, final, []⟩ (acC ⟨3, 0, 0, [], inter, final, []⟩ (.slice none 0 0) (.slice aI nI cI) (.slice none 0 0))) := Lib.hid (rda_of rfl HI.out rfl rfl fun w' h => ⟨reads_nil w', (RD.out w' h).2.1, reads_nil w'⟩)
            unfold acC at HX1 HX2
            clear o1a o1b o2 o3 o4 o5 o7
            go_wp2_with (first | (go_at_call 11; refine (sameact11 HX1.out.more.more HX2.out.more.more hs).mono ?_; clear hs; rintro e w ⟨rfl, hs⟩) | ((have _t := z9; clear _t); refine wrap hs ?_; clear hs; generalize w.heap.size = z10; intro w hs) | ((with_reducible refine isl ?_); first | ((with_reducible apply ldsc ); exact rfl; exact rfl; exact rfl; exact HC.out _ hs; exact row33) | ((with_reducible apply stsw hs.b0); exact rfl; exact rfl; exact rfl; exact rfl; exact row33; exact rfl; exact rfl; exact rfl; clear hs; intro w hs) | ((with_reducible apply stsw hs.b1); exact rfl; exact rfl; exact rfl; exact rfl; exact row33; exact rfl; exact rfl; exact rfl; clear hs; intro w hs) | ((with_reducible apply ldsw hs.b0); exact rfl; exact rfl; exact rfl; exact row33) | ((with_reducible apply ldsw hs.b1); exact rfl; exact rfl; exact rfl; exact row33) | ((with_reducible refine wrap hs ?_); clear hs; generalize wr.heap.size = z9; intro w hs) | ((with_reducible apply ld hs.b0); exact rfl; exact rfl; exact rfl; exact rfl; kernel_rfl) | ((with_reducible apply ld hs.b1); exact rfl; exact rfl; exact rfl; exact rfl; kernel_rfl) | ((with_reducible apply st hs.b0); exact rfl; exact rfl; exact rfl; exact rfl; exact rfl; exact rfl; kernel_rfl; exact rfl; clear hs; intro w hs) | ((with_reducible apply st hs.b1); exact rfl; exact rfl; exact rfl; exact rfl; exact rfl; exact rfl; kernel_rfl; exact rfl; clear hs; intro w hs) | ((with_reducible apply stc hs.b0); exact rfl; exact rfl; exact rfl; exact rfl; exact rfl; kernel_rfl; exact rfl; clear hs; intro w hs) | ((with_reducible apply stc hs.b1); exact rfl; exact rfl; exact rfl; exact rfl; exact rfl; kernel_rfl; exact rfl; clear hs; intro w hs) | ((with_reducible refine wrap hs ?_); clear hs; intro w hs) | ((with_reducible refine wrapn hs ?_); clear hs; intro w hs) | ((with_reducible refine wrapd hs ?_); clear hs; intro w hs)))
            refine region_mix [([0, 1, 2, 3, 4], [5]), ([6], [7])] [] hs (fun _ h => by (show sat W [cel z9 33 [.int .u8 3, .int .i32 0, .int .i32 0, .slice aP nP cP, .slice aI nI cI, .int .i32 final, .slice aT nT cT]] _; (refine sb_from ?_ h; repeat constructor))) (by kernel_rfl) (by kernel_rfl) (fun _ _ _ _ _ h => h) ?_
            simp only [segs, nths, nth, List.append_nil, List.nil_append, List.cons_append, List.map_cons, List.map_nil]
            refine seg_reads (fun _ h => by (show sat W [cel z9 33 [.int .u8 3, .int .i32 0, .int .i32 0, .slice aP nP cP, .slice aI nI cI, .int .i32 final, .slice aT nT cT]] _; (refine sb_from ?_ h; repeat constructor))) ?_; intro X f hne hf hcl; (try simp only [Act.put, List.setIfInBounds_toArray, List.set_cons_succ, List.set_cons_zero]); (repeat ((first | ((with_reducible apply ldq (fun x => (hf x).b0)); exact rfl; exact rfl; exact rfl; exact rfl; kernel_rfl) | go_big_quiet_step (fail)); (try simp only [Act.put, List.setIfInBounds_toArray, List.set_cons_succ, List.set_cons_zero]))); refine wpQuiet_nil ?_; clear hcl hf hne hs f X; intro w hs
            go_wp2_with (first | ((with_reducible refine isl ?_); first | ((with_reducible apply ld hs.b0); exact rfl; exact rfl; exact rfl; exact rfl; kernel_rfl) | ((with_reducible apply ld hs.b1); exact rfl; exact rfl; exact rfl; exact rfl; kernel_rfl) | ((with_reducible apply st hs.b0); exact rfl; exact rfl; exact rfl; exact rfl; exact rfl; exact rfl; kernel_rfl; exact rfl; clear hs; intro w hs) | ((with_reducible apply st hs.b1); exact rfl; exact rfl; exact rfl; exact rfl; exact rfl; exact rfl; kernel_rfl; exact rfl; clear hs; intro w hs) | ((with_reducible apply stc hs.b0); exact rfl; exact rfl; exact rfl; exact rfl; exact rfl; kernel_rfl; exact rfl; clear hs; intro w hs) | ((with_reducible apply stc hs.b1); exact rfl; exact rfl; exact rfl; exact rfl; exact rfl; kernel_rfl; exact rfl; clear hs; intro w hs) | ((with_reducible refine wrap hs ?_); clear hs; intro w hs) | ((with_reducible refine wrapn hs ?_); clear hs; intro w hs) | ((with_reducible refine wrapd hs ?_); clear hs; intro w hs)))
            (first | refine seg_on hs (fun _ h => h) ?_ ?_ | refine seg_on hs.made (fun _ h => h) ?_ ?_ | refine seg_on hs.drew (fun _ h => h) ?_ ?_ | refine seg_on hs.drew.made (fun _ h => h) ?_ ?_ | refine seg_on (hs.drewN _) (fun _ h => h) ?_ ?_)
            · exact fun _ h => by (show sat W [cel z9 33 [.int .u8 3, .int .i32 0, .int .i32 0, .slice aP nP cP, .slice aI nI cI, .int .i32 final, .slice aT nT cT]] _; (refine sb_from ?_ h; repeat constructor))
            clear hs; intro hs
            refine seg_reads (fun _ h => by (show sat W [cel z9 33 [.int .u8 3, .int .i32 0, .int .i32 0, .slice aP nP cP, .slice aI nI cI, .int .i32 final, .slice aT nT cT]] _; (refine sb_from ?_ h; repeat constructor))) ?_; intro X f hne hf hcl; (try simp only [Act.put, List.setIfInBounds_toArray, List.set_cons_succ, List.set_cons_zero]); (repeat ((first | ((with_reducible apply ldq (fun x => (hf x).b0)); exact rfl; exact rfl; exact rfl; exact rfl; kernel_rfl) | go_big_quiet_step (fail)); (try simp only [Act.put, List.setIfInBounds_toArray, List.set_cons_succ, List.set_cons_zero]))); refine wpQuiet_nil ?_; clear hcl hf hne hs f X; intro w hs
            go_wp2_with (first | ((with_reducible refine isl ?_); first | ((with_reducible apply ld hs.b0); exact rfl; exact rfl; exact rfl; exact rfl; kernel_rfl) | ((with_reducible apply ld hs.b1); exact rfl; exact rfl; exact rfl; exact rfl; kernel_rfl) | ((with_reducible apply st hs.b0); exact rfl; exact rfl; exact rfl; exact rfl; exact rfl; exact rfl; kernel_rfl; exact rfl; clear hs; intro w hs) | ((with_reducible apply st hs.b1); exact rfl; exact rfl; exact rfl; exact rfl; exact rfl; exact rfl; kernel_rfl; exact rfl; clear hs; intro w hs) | ((with_reducible apply stc hs.b0); exact rfl; exact rfl; exact rfl; exact rfl; exact rfl; kernel_rfl; exact rfl; clear hs; intro w hs) | ((with_reducible apply stc hs.b1); exact rfl; exact rfl; exact rfl; exact rfl; exact rfl; kernel_rfl; exact rfl; clear hs; intro w hs) | ((with_reducible refine wrap hs ?_); clear hs; intro w hs) | ((with_reducible refine wrapn hs ?_); clear hs; intro w hs) | ((with_reducible refine wrapd hs ?_); clear hs; intro w hs)))
            (first | refine seg_on hs (fun _ h => h) ?_ ?_ | refine seg_on hs.made (fun _ h => h) ?_ ?_ | refine seg_on hs.drew (fun _ h => h) ?_ ?_ | refine seg_on hs.drew.made (fun _ h => h) ?_ ?_ | refine seg_on (hs.drewN _) (fun _ h => h) ?_ ?_)
            · exact fun _ h => by (show sat W [cel z9 33 [.int .u8 3, .int .i32 0, .int .i32 0, .slice aP nP cP, .slice aI nI cI, .int .i32 final, .slice aT nT cT]] _; (refine sb_from ?_ h; repeat constructor))
            clear hs; intro hs
            refine seg_last (fun _ h => by (show sat W [cel z9 33 [.int .u8 3, .int .i32 0, .int .i32 0, .slice aP nP cP, .slice aI nI cI, .int .i32 final, .slice aT nT cT]] _; (refine sb_from ?_ h; repeat constructor))) ?_; intro X f hne hf hcl; (try simp only [Act.put, List.setIfInBounds_toArray, List.set_cons_succ, List.set_cons_zero]); (repeat ((first | ((with_reducible apply ldq (fun x => (hf x).b0)); exact rfl; exact rfl; exact rfl; exact rfl; kernel_rfl) | go_big_quiet_step (fail)); (try simp only [Act.put, List.setIfInBounds_toArray, List.set_cons_succ, List.set_cons_zero]))); refine wpQuiet_nil ?_; clear hcl hf hne hs f X; intro w hs
            go_wp2_with (first | (go_at_call 11; refine (sameact11 HX1.out.more.more HX2.out.more.more hs).mono ?_; clear hs; rintro e w ⟨rfl, hs⟩) | ((have _t := z9; clear _t); refine wrap hs ?_; clear hs; generalize w.heap.size = z10; intro w hs) | ((with_reducible refine isl ?_); first | ((with_reducible apply ldsc ); exact rfl; exact rfl; exact rfl; exact HC.out _ hs; exact row33) | ((with_reducible apply stsw hs.b0); exact rfl; exact rfl; exact rfl; exact rfl; exact row33; exact rfl; exact rfl; exact rfl; clear hs; intro w hs) | ((with_reducible apply stsw hs.b1); exact rfl; exact rfl; exact rfl; exact rfl; exact row33; exact rfl; exact rfl; exact rfl; clear hs; intro w hs) | ((with_reducible apply ldsw hs.b0); exact rfl; exact rfl; exact rfl; exact row33) | ((with_reducible apply ldsw hs.b1); exact rfl; exact rfl; exact rfl; exact row33) | ((with_reducible refine wrap hs ?_); clear hs; generalize wr.heap.size = z9; intro w hs) | ((with_reducible apply ld hs.b0); exact rfl; exact rfl; exact rfl; exact rfl; kernel_rfl) | ((with_reducible apply ld hs.b1); exact rfl; exact rfl; exact rfl; exact rfl; kernel_rfl) | ((with_reducible apply st hs.b0); exact rfl; exact rfl; exact rfl; exact rfl; exact rfl; exact rfl; kernel_rfl; exact rfl; clear hs; intro w hs) | ((with_reducible apply st hs.b1); exact rfl; exact rfl; exact rfl; exact rfl; exact rfl; exact rfl; kernel_rfl; exact rfl; clear hs; intro w hs) | ((with_reducible apply stc hs.b0); exact rfl; exact rfl; exact rfl; exact rfl; exact rfl; kernel_rfl; exact rfl; clear hs; intro w hs) | ((with_reducible apply stc hs.b1); exact rfl; exact rfl; exact rfl; exact rfl; exact rfl; kernel_rfl; exact rfl; clear hs; intro w hs) | ((with_reducible refine wrap hs ?_); clear hs; intro w hs) | ((with_reducible refine wrapn hs ?_); clear hs; intro w hs) | ((with_reducible refine wrapd hs ?_); clear hs; intro w hs)))
            go_roundw
            case rel => exact ⟨m + 1, by omega, by go_num, hs.dropN 2⟩
            case measure => simp [intOf]; omega
          · -- kind 4
            obtain rfl : rr = 0 := o2 (by decide) (by decide)
            obtain rfl : text = [] := o5 (by decide)
            have HX1 : Hid (RdA W HH ⟨4, 0, priv, params, inter, final, []⟩ (acC ⟨4, 0, priv, params, inter, final, []⟩ (.slice aP nP cP) (.slice aI nI cI) (.slice aT nT cT))) := Lib.hid (rda_of HP.out HI.out HT.out rfl RD.out)
            have HX2 : Hid (RdA W HH ⟨4, 0, priv, params, inter, final, []⟩ (acC ⟨4, 0, priv, params, inter, final, []⟩ (.slice aP nP cP) (.slice aI nI cI) (.slice none 0 0))) := Lib.hid (rda_of HP.out HI.out rfl rfl fun w' h => ⟨(RD.out w' h).1, (RD.out w' h).2.1, reads_nil w'⟩)
            unfold acC at HX1 HX2
            clear o1a o1b o2 o3 o4 o5 o7
            go_wp2_with (first | (go_at_call 11; refine (sameact11 HX1.out.more.more HX2.out.more.more hs).mono ?_; clear hs; rintro e w ⟨rfl, hs⟩) | ((have _t := z9; clear _t); refine wrap hs ?_; clear hs; generalize w.heap.size = z10; intro w hs) | ((with_reducible refine isl ?_); first | ((with_reducible apply ldsc ); exact rfl; exact rfl; exact rfl; exact HC.out _ hs; exact row33) | ((with_reducible apply stsw hs.b0); exact rfl; exact rfl; exact rfl; exact rfl; exact row33; exact rfl; exact rfl; exact rfl; clear hs; intro w hs) | ((with_reducible apply stsw hs.b1); exact rfl; exact rfl; exact rfl; exact rfl; exact row33; exact rfl; exact rfl; exact rfl; clear hs; intro w hs) | ((with_reducible apply ldsw hs.b0); exact rfl; exact rfl; exact rfl; exact row33) | ((with_reducible apply ldsw hs.b1); exact rfl; exact rfl; exact rfl; exact row33) | ((with_reducible refine wrap hs ?_); clear hs; generalize wr.heap.size = z9; intro w hs) | ((with_reducible apply ld hs.b0); exact rfl; exact rfl; exact rfl; exact rfl; kernel_rfl) | ((with_reducible apply ld hs.b1); exact rfl; exact rfl; exact rfl; exact rfl; kernel_rfl) | ((with_reducible apply st hs.b0); exact rfl; exact rfl; exact rfl; exact rfl; exact rfl; exact rfl; kernel_rfl; exact rfl; clear hs; intro w hs) | ((with_reducible apply st hs.b1); exact rfl; exact rfl; exact rfl; exact rfl; exact rfl; exact rfl; kernel_rfl; exact rfl; clear hs; intro w hs) | ((with_reducible apply stc hs.b0); exact rfl; exact rfl; exact rfl; exact rfl; exact rfl; kernel_rfl; exact rfl; clear hs; intro w hs) | ((with_reducible apply stc hs.b1); exact rfl; exact rfl; exact rfl; exact rfl; exact rfl; kernel_rfl; exact rfl; clear hs; intro w hs) | ((with_reducible refine wrap hs ?_); clear hs; intro w hs) | ((with_reducible refine wrapn hs ?_); clear hs; intro w hs) | ((with_reducible refine wrapd hs ?_); clear hs; intro w hs)))
            go_roundw
            case rel => exact ⟨m + 1, by omega, by go_num, hs.dropN 2⟩
            case measure => simp [intOf]; omega
          · -- kind 5
            obtain rfl : rr = 0 := o2 (by decide) (by decide)
            obtain ⟨rfl, rfl⟩ : priv = 0 ∧ params = [] := o3 (by decide) (by decide)
            obtain ⟨rfl, rfl⟩ : inter = [] ∧ final = 0 := o4 (by decide) (by decide) (by decide)
            have HX1 : Hid (RdA W HH ⟨5, 0, 0, [], [], 0, text⟩ (acC ⟨5, 0, 0, [], [], 0, text⟩ (.slice aP nP cP) (.slice aI nI cI) (.slice aT nT cT))) := Lib.hid (rda_of HP.out HI.out HT.out rfl RD.out)
            have HX2 : Hid (RdA W HH ⟨5, 0, 0, [], [], 0, text⟩ (acC ⟨5, 0, 0, [], [], 0, text⟩ (.slice none 0 0) (.slice none 0 0) (.slice aT nT cT))) := Lib.hid (rda_of rfl rfl HT.out rfl fun w' h => ⟨reads_nil w', reads_nil w', (RD.out w' h).2.2⟩)
            unfold acC at HX1 HX2
            clear o1a o1b o2 o3 o4 o5 o7
            go_wp2_with (first | (go_at_call 11; refine (sameact11 HX1.out.more.more HX2.out.more.more hs).mono ?_; clear hs; rintro e w ⟨rfl, hs⟩) | ((have _t := z9; clear _t); refine wrap hs ?_; clear hs; generalize w.heap.size = z10; intro w hs) | ((with_reducible refine isl ?_); first | ((with_reducible apply ldsc ); exact rfl; exact rfl; exact rfl; exact HC.out _ hs; exact row33) | ((with_reducible apply stsw hs.b0); exact rfl; exact rfl; exact rfl; exact rfl; exact row33; exact rfl; exact rfl; exact rfl; clear hs; intro w hs) | ((with_reducible apply stsw hs.b1); exact rfl; exact rfl; exact rfl; exact rfl; exact row33; exact rfl; exact rfl; exact rfl; clear hs; intro w hs) | ((with_reducible apply ldsw hs.b0); exact rfl; exact rfl; exact rfl; exact row33) | ((with_reducible apply ldsw hs.b1); exact rfl; exact rfl; exact rfl; exact row33) | ((with_reducible refine wrap hs ?_); clear hs; generalize wr.heap.size = z9; intro w hs) | ((with_reducible apply ld hs.b0); exact rfl; exact rfl; exact rfl; exact rfl; kernel_rfl) | ((with_reducible apply ld hs.b1); exact rfl; exact rfl; exact rfl; exact rfl; kernel_rfl) | ((with_reducible apply st hs.b0); exact rfl; exact rfl; exact rfl; exact rfl; exact rfl; exact rfl; kernel_rfl; exact rfl; clear hs; intro w hs) | ((with_reducible apply st hs.b1); exact rfl; exact rfl; exact rfl; exact rfl; exact rfl; exact rfl; kernel_rfl; exact rfl; clear hs; intro w hs) | ((with_reducible apply stc hs.b0); exact rfl; exact rfl; exact rfl; exact rfl; exact rfl; kernel_rfl; exact rfl; clear hs; intro w hs) | ((with_reducible apply stc hs.b1); exact rfl; exact rfl; exact rfl; exact rfl; exact rfl; kernel_rfl; exact rfl; clear hs; intro w hs) | ((with_reducible refine wrap hs ?_); clear hs; intro w hs) | ((with_reducible refine wrapn hs ?_); clear hs; intro w hs) | ((with_reducible refine wrapd hs ?_); clear hs; intro w hs)))
            go_roundw
            case rel => exact ⟨m + 1, by omega, by go_num, hs.dropN 2⟩
            case measure => simp [intOf]; omega
          · -- kind 6
            obtain rfl : rr = 0 := o2 (by decide) (by decide)
            obtain rfl : text = [] := o5 (by decide)
            have HX1 : Hid (RdA W HH ⟨6, 0, priv, params, inter, final, []⟩ (acC ⟨6, 0, priv, params, inter, final, []⟩ (.slice aP nP cP) (.slice aI nI cI) (.slice aT nT cT))) := Lib.hid (rda_of HP.out HI.out HT.out rfl RD.out)
            have HX2 : Hid (RdA W HH ⟨6, 0, priv, params, inter, final, []⟩ (acC ⟨6, 0, priv, params, inter, final, []⟩ (.slice aP nP cP) (.slice aI nI cI) (.slice none 0 0))) := Lib.hid (rda_of HP.out HI.out rfl rfl fun w' h => ⟨(RD.out w' h).1, (RD.out w' h).2.1, reads_nil w'⟩)
            unfold acC at HX1 HX2
            clear o1a o1b o2 o3 o4 o5 o7
            go_wp2_with (first | (go_at_call 11; refine (sameact11 HX1.out.more.more HX2.out.more.more hs).mono ?_; clear hs; rintro e w ⟨rfl, hs⟩) | ((have _t := z9; clear _t); refine wrap hs ?_; clear hs; generalize w.heap.size = z10; intro w hs) | ((with_reducible refine isl ?_); first | ((with_reducible apply ldsc ); exact rfl; exact rfl; exact rfl; exact HC.out _ hs; exact row33) | ((with_reducible apply stsw hs.b0); exact rfl; exact rfl; exact rfl; exact rfl; exact row33; exact rfl; exact rfl; exact rfl; clear hs; intro w hs) | ((with_reducible apply stsw hs.b1); exact rfl; exact rfl; exact rfl; exact rfl; exact row33; exact rfl; exact rfl; exact rfl; clear hs; intro w hs) | ((with_reducible apply ldsw hs.b0); exact rfl; exact rfl; exact rfl; exact row33) | ((with_reducible apply ldsw hs.b1); exact rfl; exact rfl; exact rfl; exact row33) | ((with_reducible refine wrap hs ?_); clear hs; generalize wr.heap.size = z9; intro w hs) | ((with_reducible apply ld hs.b0); exact rfl; exact rfl; exact rfl; exact rfl; kernel_rfl) | ((with_reducible apply ld hs.b1); exact rfl; exact rfl; exact rfl; exact rfl; kernel_rfl) | ((with_reducible apply st hs.b0); exact rfl; exact rfl; exact rfl; exact rfl; exact rfl; exact rfl; kernel_rfl; exact rfl; clear hs; intro w hs) | ((with_reducible apply st hs.b1); exact rfl; exact rfl; exact rfl; exact rfl; exact rfl; exact rfl; kernel_rfl; exact rfl; clear hs; intro w hs) | ((with_reducible apply stc hs.b0); exact rfl; exact rfl; exact rfl; exact rfl; exact rfl; kernel_rfl; exact rfl; clear hs; intro w hs) | ((with_reducible apply stc hs.b1); exact rfl; exact rfl; exact rfl; exact rfl; exact rfl; kernel_rfl; exact rfl; clear hs; intro w hs) | ((with_reducible refine wrap hs ?_); clear hs; intro w hs) | ((with_reducible refine wrapn hs ?_); clear hs; intro w hs) | ((with_reducible refine wrapd hs ?_); clear hs; intro w hs)))
            go_roundw
            case rel => exact ⟨m + 1, by omega, by go_num, hs.dropN 2⟩
            case measure => simp [intOf]; omega
        · have hmk2 : m = k := by omega
          obtain rfl : k = m := hmk2.symm
          replace hs := HB.out _ hs
          go_wp2_with fail
          go_roundw
          case rel => exact ⟨j + 1, q', by omega, by go_num, HQ2, hs⟩
          case measure => simp [intOf]; omega
    · have hjn2 : j = n1 := by omega
      obtain rfl : n1 = j := hjn2.symm
      replace hs := hs.drop
      go_wp2_with (first | (go_at_call 6; refine (known6 hs).mono ?_; clear hs; rintro e w ⟨rfl, hs⟩) | ((with_reducible refine isl ?_); first | ((with_reducible refine wrap hs ?_); clear hs; intro w hs) | ((with_reducible refine wrapn hs ?_); clear hs; intro w hs) | ((with_reducible refine wrapd hs ?_); clear hs; intro w hs)))
      go_ret
      exact ⟨rfl, hs⟩
end Go.Proofs.Ytojgdpccjlgmiaa
