/- Law 04: acts put together; the steps of the states, taken; where a rune leads from everywhere. -/
import Derived.Test.YtojgdpccjlgmiaaK7
namespace Go.Proofs.Ytojgdpccjlgmiaa
open Go.RowKit Go.Mem Go.Parse
variable {W w : World} {H : List HProp}
theorem sat.acl_cells : ∀ {l : List Ac} {L : List (List Value)} {H : List HProp}, sat W (acl l L :: H) w → L.flatten.length = l.length * 7 ∧ ∀ u ∈ L.flatten, u.oneCell' = true
  | [], [], _, _ => ⟨rfl, fun u hu => (List.not_mem_nil hu).elim⟩
  | [], _ :: _, _, hs => by
    have hs : sat W (pur False :: _) w := hs
    exact hs.pure.elim
  | _ :: _, [], _, hs => by
    have hs : sat W (pur False :: _) w := hs
    exact hs.pure.elim
  | x :: l, c :: L, _, hs => by
    have hs : sat W (star (acO x c) (acl l L) :: _) w := hs
    have hs := hs.unstar
    obtain ⟨ih1, ih2⟩ := sat.acl_cells hs.b1
    obtain ⟨aP, hs⟩ := hs.ex
    obtain ⟨cP, hs⟩ := hs.ex
    obtain ⟨aI, hs⟩ := hs.ex
    obtain ⟨cI, hs⟩ := hs.ex
    obtain ⟨aT, hs⟩ := hs.ex
    obtain ⟨cT, hs⟩ := hs.ex
    obtain ⟨rfl, hs⟩ := hs.and_pure
    refine ⟨?_, fun u hu => ?_⟩
    · rw [List.flatten_cons, List.length_append, ih1, List.length_cons]
      show 7 + l.length * 7 = _
      omega
    · rw [List.flatten_cons] at hu
      rcases List.mem_append.1 hu with hu | hu
      · unfold acC at hu
        simp only [List.mem_cons, List.not_mem_nil, or_false] at hu
        rcases hu with rfl | rfl | rfl | rfl | rfl | rfl | rfl <;> rfl
      · exact ih2 u hu
theorem acs_len {v : Value} {l : List Ac} {a : Option Addr} {n c : Nat} (hv : v = .slice a n c) (hs : sat W (acs v l :: H) w) : l.length = n := by
  obtain ⟨L, hs⟩ := sat.acs_open hs
  subst hv
  rcases hs.own_cases.2 with ⟨e, h, _⟩ | ⟨_, _, _, e, _⟩
  · cases e; exact h
  · cases e; rfl
/-- append of acts onto acts. -/
theorem appacs {P : Program} {ops : Array Oper} {rest : List Oper} {o : Oper} {a : Act} {Q : Exit → Act → World → Prop} {s x : Operand} {a1 a2 : Option Addr} {n1 n2 c1 c2 : Nat} {l1 l2 : List Ac} (hs : sat W (acs (.slice a1 n1 c1) l1 :: acs (.slice a2 n2 c2) l2 :: H) w)
    (ho : o.op = .call { callee := .builtin .append, args := #[s, x], argTypes := #[26, 26] }) (hw : Region.wanted o (yielded ops a.tmps) = true)
    (hev : a.eval s = .slice a1 n1 c1) (hx : a.eval x = .slice a2 n2 c2) (ht : SlTy P 26 33 7 96) (hb : n1 + n2 ≤ 100000)
    (h : ∀ a' c' w', sat W (acs (.slice a' (n1 + n2) c') (l1 ++ l2) :: H) w' → wpList P ops Q rest (a.put o.dst (.slice a' (n1 + n2) c')) w') : wpList P ops Q (o :: rest) a w := by
  have e1 := acs_len rfl hs
  have e2 := acs_len rfl hs.b1
  subst e1 e2
  obtain ⟨L1, hs⟩ := sat.acs_open hs
  obtain ⟨L2, hs⟩ := sat.acs_open hs.b2
  rcases hs.own_cases.2 with ⟨e, h0, hz⟩ | ⟨g, cap, cur, e, _⟩
  · have hl : l2 = [] := List.eq_nil_of_length_eq_zero h0
    subst hl
    cases e
    refine wpList_append_sat_none hw s x 26 ho ht hev (hs.b2) (by rw [hx]; rfl) ?_
    have h2 := h a1 c1 w (by
      rw [List.append_nil]
      exact sat.acs_mk rfl (sat_from (by first | exact .c2 (.c2 (.skip (.skip (.refl _)))) | exact .c2 (.c2 (.refl _)) | (repeat (first | exact Sub.refl _ | refine Sub.c0 ?_ | refine Sub.c1 ?_ | refine Sub.c2 ?_ | refine Sub.c3 ?_ | refine Sub.skip ?_))) hs))
    exact h2
  · cases e
    obtain ⟨k1, k2⟩ := sat.acl_cells hs.b1
    refine appo (g := g) (hs.b2) ho hw hev hx ht k1 k2 (by omega) (by unfold maxLen; omega) fun a' c' w' hs' => h a' c' w' ?_
    rw [← List.length_append]
    refine sat.acs_mk (L := L1 ++ L2) (by rw [List.flatten_append]) ?_
    rw [List.length_append]
    have h3 : sat W (acl l1 L1 :: acl l2 L2 :: own 33 7 (.slice a' (l1.length + l2.length) c') (l1.length + l2.length) (L1.flatten ++ L2.flatten) :: H) w' := by
      refine sb_from ?_ hs'; repeat constructor
    exact (sat.acl_app h3).b1
attribute [local irreducible] World.setCell World.setCells World.alloc World.drew World.drewN Calls sat cel own blk old wpQuiet wpList pm values digit next acs
variable {b : Nat} {st pr : Int} {L : PL} {I T : List Int} {ov : Bool} {p : Ps} {H : List HProp}
theorem csi17 {r : Int} (hr1 : r < 1114112) (ok : p.ok) (hs : sat W (prs b p :: H) w) : Calls Try.prog 17 #[.pointer (some ⟨b, 0, none⟩), .int .i32 r] w (Acts W H b (if r < 32 then (p, exec r) else sequence p r 4 3 6 0)) := by
  have HOK := Lib.hid ok
  clear ok
  by_cases c1 : r < 32
  · rw [if_pos c1]
    go_enter Try.func17, Try.ntmps17
    go_wp2_with (first | (go_at_call 27; refine (exec27 hs).mono ?_; clear hs; rintro e w ⟨a, c, rfl, hs⟩) | ((with_reducible refine isl ?_); first | ((with_reducible refine wrap hs ?_); clear hs; intro w hs) | ((with_reducible refine wrapn hs ?_); clear hs; intro w hs) | ((with_reducible refine wrapd hs ?_); clear hs; intro w hs)))
    go_ret
    exact exec_acts hs.b1
  · rw [if_neg c1]
    go_enter Try.func17, Try.ntmps17
    go_wp2_with (first | (go_at_call 31; refine (seq_csi (by omega) (by omega) HOK.out hs).mono ?_; clear hs; rintro e w ⟨a, c, rfl, hs⟩) | ((with_reducible refine isl ?_); first | ((with_reducible refine wrap hs ?_); clear hs; intro w hs) | ((with_reducible refine wrapn hs ?_); clear hs; intro w hs) | ((with_reducible refine wrapd hs ?_); clear hs; intro w hs)))
    go_ret
    exact ⟨_, _, rfl, hs⟩
theorem dcs19 {r : Int} (hr1 : r < 1114112) (ok : p.ok) (hs : sat W (prs b p :: H) w) : Calls Try.prog 19 #[.pointer (some ⟨b, 0, none⟩), .int .i32 r] w (Acts W H b (if r < 32 then (p, []) else sequence p r 6 7 11 10)) := by
  have HOK := Lib.hid ok
  clear ok
  by_cases c1 : r < 32
  · rw [if_pos c1]
    go_enter Try.func19, Try.ntmps19
    go_wp2_with (first | ((with_reducible refine isl ?_); first | ((with_reducible refine wrap hs ?_); clear hs; intro w hs) | ((with_reducible refine wrapn hs ?_); clear hs; intro w hs) | ((with_reducible refine wrapd hs ?_); clear hs; intro w hs)))
    go_ret
    exact Acts.none hs
  · rw [if_neg c1]
    go_enter Try.func19, Try.ntmps19
    go_wp2_with (first | (go_at_call 31; refine (seq_dcs (by omega) (by omega) HOK.out hs).mono ?_; clear hs; rintro e w ⟨a, c, rfl, hs⟩) | ((with_reducible refine isl ?_); first | ((with_reducible refine wrap hs ?_); clear hs; intro w hs) | ((with_reducible refine wrapn hs ?_); clear hs; intro w hs) | ((with_reducible refine wrapd hs ?_); clear hs; intro w hs)))
    go_ret
    exact ⟨_, _, rfl, hs⟩
theorem ignore18 {r : Int} (ok : p.ok) (hs : sat W (prs b p :: H) w) : Calls Try.prog 18 #[.pointer (some ⟨b, 0, none⟩), .int .i32 r] w (Acts W H b (ignoring p r)) := by
  unfold ignoring
  by_cases c1 : r < 32
  · rw [if_pos c1]
    clear ok
    go_enter Try.func18, Try.ntmps18
    go_wp2_with (first | (go_at_call 27; refine (exec27 hs).mono ?_; clear hs; rintro e w ⟨a, c, rfl, hs⟩) | ((with_reducible refine isl ?_); first | ((with_reducible refine wrap hs ?_); clear hs; intro w hs) | ((with_reducible refine wrapn hs ?_); clear hs; intro w hs) | ((with_reducible refine wrapd hs ?_); clear hs; intro w hs)))
    go_ret
    exact exec_acts hs.b1
  rw [if_neg c1]
  by_cases c2 : 64 ≤ r
  · rw [if_pos c2]
    obtain ⟨nI, hI⟩ : ∃ n, p.inter.length = n := ⟨_, rfl⟩
    obtain ⟨nT, hT⟩ : ∃ n, p.text.length = n := ⟨_, rfl⟩
    have HL := Lib.hid ok.par.1
    have HI := Lib.hid hI
    have HT := Lib.hid hT
    have HOK := Lib.hid ok
    have hi2 : nI ≤ 2 := by rw [← hI]; exact ok.inter
    have ht2 : nT ≤ 1024 := by rw [← hT]; exact ok.text
    obtain ⟨aI, cI, aT, cT, hs⟩ := sat.prs_open hI hT hs
    clear hI hT
    clear ok
    go_enter Try.func18, Try.ntmps18
    go_wp2_with (first | ((with_reducible refine isl ?_); first | ((with_reducible apply ld hs.b0); exact rfl; exact rfl; exact rfl; exact pm_c0; exact one5) | ((with_reducible apply ld hs.b0); exact rfl; exact rfl; exact rfl; exact pm_c1; exact one21) | ((with_reducible apply ld hs.b0); exact rfl; exact rfl; exact rfl; exact pm_c36 HL.out; exact one22) | ((with_reducible apply ld hs.b0); exact rfl; exact rfl; exact rfl; exact pm_c37 HL.out; exact one4) | ((with_reducible apply ld hs.b0); exact rfl; exact rfl; exact rfl; exact pm_c38 HL.out; exact one22) | ((with_reducible apply st hs.b0); exact rfl; exact rfl; exact rfl; exact rfl; exact rfl; exact pm_s0; exact one5; exact rfl; clear hs; intro w hs; rw [pm_set0] at hs) | ((with_reducible apply st hs.b0); exact rfl; exact rfl; exact rfl; exact rfl; exact rfl; exact pm_s1; exact one21; exact rfl; clear hs; intro w hs; rw [pm_set1] at hs) | ((with_reducible apply st hs.b0); exact rfl; exact rfl; exact rfl; exact rfl; exact rfl; exact pm_s36 HL.out; exact one22; exact rfl; clear hs; intro w hs; rw [pm_set36 HL.out] at hs) | ((with_reducible apply st hs.b0); exact rfl; exact rfl; exact rfl; exact rfl; exact rfl; exact pm_s37 HL.out; exact one4; exact rfl; clear hs; intro w hs; rw [pm_set37 HL.out] at hs) | ((with_reducible apply st hs.b0); exact rfl; exact rfl; exact rfl; exact rfl; exact rfl; exact pm_s38 HL.out; exact one22; exact rfl; clear hs; intro w hs; rw [pm_set38 HL.out] at hs) | ((with_reducible apply stc hs.b0); exact rfl; exact rfl; exact rfl; exact rfl; exact pm_s0; exact one5; exact rfl; clear hs; intro w hs; rw [pm_set0] at hs) | ((with_reducible apply stc hs.b0); exact rfl; exact rfl; exact rfl; exact rfl; exact pm_s1; exact one21; exact rfl; clear hs; intro w hs; rw [pm_set1] at hs) | ((with_reducible apply stc hs.b0); exact rfl; exact rfl; exact rfl; exact rfl; exact pm_s36 HL.out; exact one22; exact rfl; clear hs; intro w hs; rw [pm_set36 HL.out] at hs) | ((with_reducible apply stc hs.b0); exact rfl; exact rfl; exact rfl; exact rfl; exact pm_s37 HL.out; exact one4; exact rfl; clear hs; intro w hs; rw [pm_set37 HL.out] at hs) | ((with_reducible apply stc hs.b0); exact rfl; exact rfl; exact rfl; exact rfl; exact pm_s38 HL.out; exact one22; exact rfl; clear hs; intro w hs; rw [pm_set38 HL.out] at hs) | ((with_reducible refine wrap hs ?_); clear hs; intro w hs) | ((with_reducible refine wrapn hs ?_); clear hs; intro w hs) | ((with_reducible refine wrapd hs ?_); clear hs; intro w hs)))
    go_ret
    exact Acts.none (sat.prs_close (p := { p with st := 0 }) HI.out HT.out hs)
  · rw [if_neg c2]
    clear ok
    go_enter Try.func18, Try.ntmps18
    go_wp2_with (first | ((with_reducible refine isl ?_); first | ((with_reducible refine wrap hs ?_); clear hs; intro w hs) | ((with_reducible refine wrapn hs ?_); clear hs; intro w hs) | ((with_reducible refine wrapd hs ?_); clear hs; intro w hs)))
    go_ret
    exact Acts.none hs
set_option maxRecDepth 4000 in
theorem osc21 {r : Int} (ok : p.ok) (hs : sat W (prs b p :: H) w) : Calls Try.prog 21 #[.pointer (some ⟨b, 0, none⟩), .int .i32 r] w (Acts W H b (osc p r)) := by
  unfold osc
  obtain ⟨nI, hI⟩ : ∃ n, p.inter.length = n := ⟨_, rfl⟩
  obtain ⟨nT, hT⟩ : ∃ n, p.text.length = n := ⟨_, rfl⟩
  have HL := Lib.hid ok.par.1
  have HI := Lib.hid hI
  have HT := Lib.hid hT
  have HOK := Lib.hid ok
  have hi2 : nI ≤ 2 := by rw [← hI]; exact ok.inter
  have ht2 : nT ≤ 1024 := by rw [← hT]; exact ok.text
  obtain ⟨aI, cI, aT, cT, hs⟩ := sat.prs_open hI hT hs
  clear hI hT
  clear ok
  by_cases c1 : r = 7
  · rw [if_pos c1]
    subst c1
    go_enter Try.func21, Try.ntmps21
    go_wp2_with (first | (go_at_call 25; refine (leave25 (s := 0) HOK.out (sat.prs_close (p := p) HI.out HT.out (by (apply sk_from (hs := hs); repeat constructor)))).mono ?_; clear hs; rintro e w ⟨aX, cX, rfl, hs⟩) | ((with_reducible refine isl ?_); first | ((with_reducible apply ld hs.b0); exact rfl; exact rfl; exact rfl; exact pm_c0; exact one5) | ((with_reducible apply ld hs.b0); exact rfl; exact rfl; exact rfl; exact pm_c1; exact one21) | ((with_reducible apply ld hs.b0); exact rfl; exact rfl; exact rfl; exact pm_c36 HL.out; exact one22) | ((with_reducible apply ld hs.b0); exact rfl; exact rfl; exact rfl; exact pm_c37 HL.out; exact one4) | ((with_reducible apply ld hs.b0); exact rfl; exact rfl; exact rfl; exact pm_c38 HL.out; exact one22) | ((with_reducible apply st hs.b0); exact rfl; exact rfl; exact rfl; exact rfl; exact rfl; exact pm_s0; exact one5; exact rfl; clear hs; intro w hs; rw [pm_set0] at hs) | ((with_reducible apply st hs.b0); exact rfl; exact rfl; exact rfl; exact rfl; exact rfl; exact pm_s1; exact one21; exact rfl; clear hs; intro w hs; rw [pm_set1] at hs) | ((with_reducible apply st hs.b0); exact rfl; exact rfl; exact rfl; exact rfl; exact rfl; exact pm_s36 HL.out; exact one22; exact rfl; clear hs; intro w hs; rw [pm_set36 HL.out] at hs) | ((with_reducible apply st hs.b0); exact rfl; exact rfl; exact rfl; exact rfl; exact rfl; exact pm_s37 HL.out; exact one4; exact rfl; clear hs; intro w hs; rw [pm_set37 HL.out] at hs) | ((with_reducible apply st hs.b0); exact rfl; exact rfl; exact rfl; exact rfl; exact rfl; exact pm_s38 HL.out; exact one22; exact rfl; clear hs; intro w hs; rw [pm_set38 HL.out] at hs) | ((with_reducible apply stc hs.b0); exact rfl; exact rfl; exact rfl; exact rfl; exact pm_s0; exact one5; exact rfl; clear hs; intro w hs; rw [pm_set0] at hs) | ((with_reducible apply stc hs.b0); exact rfl; exact rfl; exact rfl; exact rfl; exact pm_s1; exact one21; exact rfl; clear hs; intro w hs; rw [pm_set1] at hs) | ((with_reducible apply stc hs.b0); exact rfl; exact rfl; exact rfl; exact rfl; exact pm_s36 HL.out; exact one22; exact rfl; clear hs; intro w hs; rw [pm_set36 HL.out] at hs) | ((with_reducible apply stc hs.b0); exact rfl; exact rfl; exact rfl; exact rfl; exact pm_s37 HL.out; exact one4; exact rfl; clear hs; intro w hs; rw [pm_set37 HL.out] at hs) | ((with_reducible apply stc hs.b0); exact rfl; exact rfl; exact rfl; exact rfl; exact pm_s38 HL.out; exact one22; exact rfl; clear hs; intro w hs; rw [pm_set38 HL.out] at hs) | ((with_reducible refine wrap hs ?_); clear hs; intro w hs) | ((with_reducible refine wrapn hs ?_); clear hs; intro w hs) | ((with_reducible refine wrapd hs ?_); clear hs; intro w hs)))
    go_ret
    exact ⟨_, _, rfl, hs⟩
  rw [if_neg c1]
  have g7 : (r == 7) = false := by simp; omega
  clear c1
  by_cases c2 : 32 ≤ r
  · by_cases c3 : nT < 1024
    · rw [if_pos ⟨c2, by rw [HT.out]; exact c3⟩]
      have g3 : decide ((nT : Int) < 1024) = true := decide_eq_true (by omega)
      have HB := Lib.hid ht2
      clear ht2 c3
      go_enter Try.func21, Try.ntmps21
      go_wp2_with (first | ((with_reducible refine isl ?_); first | ((with_reducible apply ld hs.b0); exact rfl; exact rfl; exact rfl; exact pm_c0; exact one5) | ((with_reducible apply ld hs.b0); exact rfl; exact rfl; exact rfl; exact pm_c1; exact one21) | ((with_reducible apply ld hs.b0); exact rfl; exact rfl; exact rfl; exact pm_c36 HL.out; exact one22) | ((with_reducible apply ld hs.b0); exact rfl; exact rfl; exact rfl; exact pm_c37 HL.out; exact one4) | ((with_reducible apply ld hs.b0); exact rfl; exact rfl; exact rfl; exact pm_c38 HL.out; exact one22) | ((with_reducible apply ld hs.b1); exact rfl; exact rfl; exact rfl; exact pm_c0; exact one5) | ((with_reducible apply ld hs.b1); exact rfl; exact rfl; exact rfl; exact pm_c1; exact one21) | ((with_reducible apply ld hs.b1); exact rfl; exact rfl; exact rfl; exact pm_c36 HL.out; exact one22) | ((with_reducible apply ld hs.b1); exact rfl; exact rfl; exact rfl; exact pm_c37 HL.out; exact one4) | ((with_reducible apply ld hs.b1); exact rfl; exact rfl; exact rfl; exact pm_c38 HL.out; exact one22) | ((with_reducible apply ld hs.b2); exact rfl; exact rfl; exact rfl; exact pm_c0; exact one5) | ((with_reducible apply ld hs.b2); exact rfl; exact rfl; exact rfl; exact pm_c1; exact one21) | ((with_reducible apply ld hs.b2); exact rfl; exact rfl; exact rfl; exact pm_c36 HL.out; exact one22) | ((with_reducible apply ld hs.b2); exact rfl; exact rfl; exact rfl; exact pm_c37 HL.out; exact one4) | ((with_reducible apply ld hs.b2); exact rfl; exact rfl; exact rfl; exact pm_c38 HL.out; exact one22) | ((with_reducible apply st hs.b0); exact rfl; exact rfl; exact rfl; exact rfl; exact rfl; exact pm_s0; exact one5; exact rfl; clear hs; intro w hs; rw [pm_set0] at hs) | ((with_reducible apply st hs.b0); exact rfl; exact rfl; exact rfl; exact rfl; exact rfl; exact pm_s1; exact one21; exact rfl; clear hs; intro w hs; rw [pm_set1] at hs) | ((with_reducible apply st hs.b0); exact rfl; exact rfl; exact rfl; exact rfl; exact rfl; exact pm_s36 HL.out; exact one22; exact rfl; clear hs; intro w hs; rw [pm_set36 HL.out] at hs) | ((with_reducible apply st hs.b0); exact rfl; exact rfl; exact rfl; exact rfl; exact rfl; exact pm_s37 HL.out; exact one4; exact rfl; clear hs; intro w hs; rw [pm_set37 HL.out] at hs) | ((with_reducible apply st hs.b0); exact rfl; exact rfl; exact rfl; exact rfl; exact rfl; exact pm_s38 HL.out; exact one22; exact rfl; clear hs; intro w hs; rw [pm_set38 HL.out] at hs) | ((with_reducible apply st hs.b1); exact rfl; exact rfl; exact rfl; exact rfl; exact rfl; exact pm_s0; exact one5; exact rfl; clear hs; intro w hs; rw [pm_set0] at hs) | ((with_reducible apply st hs.b1); exact rfl; exact rfl; exact rfl; exact rfl; exact rfl; exact pm_s1; exact one21; exact rfl; clear hs; intro w hs; rw [pm_set1] at hs) | ((with_reducible apply st hs.b1); exact rfl; exact rfl; exact rfl; exact rfl; exact rfl; exact pm_s36 HL.out; exact one22; exact rfl; clear hs; intro w hs; rw [pm_set36 HL.out] at hs) | ((with_reducible apply st hs.b1); exact rfl; exact rfl; exact rfl; exact rfl; exact rfl; exact pm_s37 HL.out; exact one4; exact rfl; clear hs; intro w hs; rw [pm_set37 HL.out] at hs) | ((with_reducible apply st hs.b1); exact rfl; exact rfl; exact rfl; exact rfl; exact rfl; exact pm_s38 HL.out; exact one22; exact rfl; clear hs; intro w hs; rw [pm_set38 HL.out] at hs) | ((with_reducible apply st hs.b2); exact rfl; exact rfl; exact rfl; exact rfl; exact rfl; exact pm_s0; exact one5; exact rfl; clear hs; intro w hs; rw [pm_set0] at hs) | ((with_reducible apply st hs.b2); exact rfl; exact rfl; exact rfl; exact rfl; exact rfl; exact pm_s1; exact one21; exact rfl; clear hs; intro w hs; rw [pm_set1] at hs) | ((with_reducible apply st hs.b2); exact rfl; exact rfl; exact rfl; exact rfl; exact rfl; exact pm_s36 HL.out; exact one22; exact rfl; clear hs; intro w hs; rw [pm_set36 HL.out] at hs) | ((with_reducible apply st hs.b2); exact rfl; exact rfl; exact rfl; exact rfl; exact rfl; exact pm_s37 HL.out; exact one4; exact rfl; clear hs; intro w hs; rw [pm_set37 HL.out] at hs) | ((with_reducible apply st hs.b2); exact rfl; exact rfl; exact rfl; exact rfl; exact rfl; exact pm_s38 HL.out; exact one22; exact rfl; clear hs; intro w hs; rw [pm_set38 HL.out] at hs) | ((with_reducible apply stc hs.b0); exact rfl; exact rfl; exact rfl; exact rfl; exact pm_s0; exact one5; exact rfl; clear hs; intro w hs; rw [pm_set0] at hs) | ((with_reducible apply stc hs.b0); exact rfl; exact rfl; exact rfl; exact rfl; exact pm_s1; exact one21; exact rfl; clear hs; intro w hs; rw [pm_set1] at hs) | ((with_reducible apply stc hs.b0); exact rfl; exact rfl; exact rfl; exact rfl; exact pm_s36 HL.out; exact one22; exact rfl; clear hs; intro w hs; rw [pm_set36 HL.out] at hs) | ((with_reducible apply stc hs.b0); exact rfl; exact rfl; exact rfl; exact rfl; exact pm_s37 HL.out; exact one4; exact rfl; clear hs; intro w hs; rw [pm_set37 HL.out] at hs) | ((with_reducible apply stc hs.b0); exact rfl; exact rfl; exact rfl; exact rfl; exact pm_s38 HL.out; exact one22; exact rfl; clear hs; intro w hs; rw [pm_set38 HL.out] at hs) | ((with_reducible apply stc hs.b1); exact rfl; exact rfl; exact rfl; exact rfl; exact pm_s0; exact one5; exact rfl; clear hs; intro w hs; rw [pm_set0] at hs) | ((with_reducible apply stc hs.b1); exact rfl; exact rfl; exact rfl; exact rfl; exact pm_s1; exact one21; exact rfl; clear hs; intro w hs; rw [pm_set1] at hs) | ((with_reducible apply stc hs.b1); exact rfl; exact rfl; exact rfl; exact rfl; exact pm_s36 HL.out; exact one22; exact rfl; clear hs; intro w hs; rw [pm_set36 HL.out] at hs) | ((with_reducible apply stc hs.b1); exact rfl; exact rfl; exact rfl; exact rfl; exact pm_s37 HL.out; exact one4; exact rfl; clear hs; intro w hs; rw [pm_set37 HL.out] at hs) | ((with_reducible apply stc hs.b1); exact rfl; exact rfl; exact rfl; exact rfl; exact pm_s38 HL.out; exact one22; exact rfl; clear hs; intro w hs; rw [pm_set38 HL.out] at hs) | ((with_reducible apply stc hs.b2); exact rfl; exact rfl; exact rfl; exact rfl; exact pm_s0; exact one5; exact rfl; clear hs; intro w hs; rw [pm_set0] at hs) | ((with_reducible apply stc hs.b2); exact rfl; exact rfl; exact rfl; exact rfl; exact pm_s1; exact one21; exact rfl; clear hs; intro w hs; rw [pm_set1] at hs) | ((with_reducible apply stc hs.b2); exact rfl; exact rfl; exact rfl; exact rfl; exact pm_s36 HL.out; exact one22; exact rfl; clear hs; intro w hs; rw [pm_set36 HL.out] at hs) | ((with_reducible apply stc hs.b2); exact rfl; exact rfl; exact rfl; exact rfl; exact pm_s37 HL.out; exact one4; exact rfl; clear hs; intro w hs; rw [pm_set37 HL.out] at hs) | ((with_reducible apply stc hs.b2); exact rfl; exact rfl; exact rfl; exact rfl; exact pm_s38 HL.out; exact one22; exact rfl; clear hs; intro w hs; rw [pm_set38 HL.out] at hs) | ((with_reducible apply app hs.b3); exact rfl; exact rfl; exact rfl; exact rfl; exact slty22; exact rfl; exact rfl; decide; (have := HB.out; omega); (have := HB.out; unfold maxLen; omega); clear hs; intro g' c' w hs) | ((with_reducible refine wrap hs ?_); clear hs; intro w hs) | ((with_reducible refine wrapn hs ?_); clear hs; intro w hs) | ((with_reducible refine wrapd hs ?_); clear hs; intro w hs)))
      go_ret
      rw [runes_snoc] at hs
      exact Acts.none (sat.prs_close (p := { p with text := p.text ++ [r] }) HI.out (by rw [List.length_append, HT.out, List.length_singleton]) (by (refine sb_from ?_ hs; repeat constructor)))
    · rw [if_neg (by rw [HT.out]; omega)]
      have g3 : decide ((nT : Int) < 1024) = false := decide_eq_false (by omega)
      clear ht2 c3
      go_enter Try.func21, Try.ntmps21
      go_wp2_with (first | ((with_reducible refine isl ?_); first | ((with_reducible apply ld hs.b0); exact rfl; exact rfl; exact rfl; exact pm_c0; exact one5) | ((with_reducible apply ld hs.b0); exact rfl; exact rfl; exact rfl; exact pm_c1; exact one21) | ((with_reducible apply ld hs.b0); exact rfl; exact rfl; exact rfl; exact pm_c36 HL.out; exact one22) | ((with_reducible apply ld hs.b0); exact rfl; exact rfl; exact rfl; exact pm_c37 HL.out; exact one4) | ((with_reducible apply ld hs.b0); exact rfl; exact rfl; exact rfl; exact pm_c38 HL.out; exact one22) | ((with_reducible apply st hs.b0); exact rfl; exact rfl; exact rfl; exact rfl; exact rfl; exact pm_s0; exact one5; exact rfl; clear hs; intro w hs; rw [pm_set0] at hs) | ((with_reducible apply st hs.b0); exact rfl; exact rfl; exact rfl; exact rfl; exact rfl; exact pm_s1; exact one21; exact rfl; clear hs; intro w hs; rw [pm_set1] at hs) | ((with_reducible apply st hs.b0); exact rfl; exact rfl; exact rfl; exact rfl; exact rfl; exact pm_s36 HL.out; exact one22; exact rfl; clear hs; intro w hs; rw [pm_set36 HL.out] at hs) | ((with_reducible apply st hs.b0); exact rfl; exact rfl; exact rfl; exact rfl; exact rfl; exact pm_s37 HL.out; exact one4; exact rfl; clear hs; intro w hs; rw [pm_set37 HL.out] at hs) | ((with_reducible apply st hs.b0); exact rfl; exact rfl; exact rfl; exact rfl; exact rfl; exact pm_s38 HL.out; exact one22; exact rfl; clear hs; intro w hs; rw [pm_set38 HL.out] at hs) | ((with_reducible apply stc hs.b0); exact rfl; exact rfl; exact rfl; exact rfl; exact pm_s0; exact one5; exact rfl; clear hs; intro w hs; rw [pm_set0] at hs) | ((with_reducible apply stc hs.b0); exact rfl; exact rfl; exact rfl; exact rfl; exact pm_s1; exact one21; exact rfl; clear hs; intro w hs; rw [pm_set1] at hs) | ((with_reducible apply stc hs.b0); exact rfl; exact rfl; exact rfl; exact rfl; exact pm_s36 HL.out; exact one22; exact rfl; clear hs; intro w hs; rw [pm_set36 HL.out] at hs) | ((with_reducible apply stc hs.b0); exact rfl; exact rfl; exact rfl; exact rfl; exact pm_s37 HL.out; exact one4; exact rfl; clear hs; intro w hs; rw [pm_set37 HL.out] at hs) | ((with_reducible apply stc hs.b0); exact rfl; exact rfl; exact rfl; exact rfl; exact pm_s38 HL.out; exact one22; exact rfl; clear hs; intro w hs; rw [pm_set38 HL.out] at hs) | ((with_reducible refine wrap hs ?_); clear hs; intro w hs) | ((with_reducible refine wrapn hs ?_); clear hs; intro w hs) | ((with_reducible refine wrapd hs ?_); clear hs; intro w hs)))
      go_ret
      exact Acts.none (sat.prs_close (p := p) HI.out HT.out hs)
  · rw [if_neg (by omega)]
    go_enter Try.func21, Try.ntmps21
    go_wp2_with (first | ((with_reducible refine isl ?_); first | ((with_reducible apply ld hs.b0); exact rfl; exact rfl; exact rfl; exact pm_c0; exact one5) | ((with_reducible apply ld hs.b0); exact rfl; exact rfl; exact rfl; exact pm_c1; exact one21) | ((with_reducible apply ld hs.b0); exact rfl; exact rfl; exact rfl; exact pm_c36 HL.out; exact one22) | ((with_reducible apply ld hs.b0); exact rfl; exact rfl; exact rfl; exact pm_c37 HL.out; exact one4) | ((with_reducible apply ld hs.b0); exact rfl; exact rfl; exact rfl; exact pm_c38 HL.out; exact one22) | ((with_reducible apply st hs.b0); exact rfl; exact rfl; exact rfl; exact rfl; exact rfl; exact pm_s0; exact one5; exact rfl; clear hs; intro w hs; rw [pm_set0] at hs) | ((with_reducible apply st hs.b0); exact rfl; exact rfl; exact rfl; exact rfl; exact rfl; exact pm_s1; exact one21; exact rfl; clear hs; intro w hs; rw [pm_set1] at hs) | ((with_reducible apply st hs.b0); exact rfl; exact rfl; exact rfl; exact rfl; exact rfl; exact pm_s36 HL.out; exact one22; exact rfl; clear hs; intro w hs; rw [pm_set36 HL.out] at hs) | ((with_reducible apply st hs.b0); exact rfl; exact rfl; exact rfl; exact rfl; exact rfl; exact pm_s37 HL.out; exact one4; exact rfl; clear hs; intro w hs; rw [pm_set37 HL.out] at hs) | ((with_reducible apply st hs.b0); exact rfl; exact rfl; exact rfl; exact rfl; exact rfl; exact pm_s38 HL.out; exact one22; exact rfl; clear hs; intro w hs; rw [pm_set38 HL.out] at hs) | ((with_reducible apply stc hs.b0); exact rfl; exact rfl; exact rfl; exact rfl; exact pm_s0; exact one5; exact rfl; clear hs; intro w hs; rw [pm_set0] at hs) | ((with_reducible apply stc hs.b0); exact rfl; exact rfl; exact rfl; exact rfl; exact pm_s1; exact one21; exact rfl; clear hs; intro w hs; rw [pm_set1] at hs) | ((with_reducible apply stc hs.b0); exact rfl; exact rfl; exact rfl; exact rfl; exact pm_s36 HL.out; exact one22; exact rfl; clear hs; intro w hs; rw [pm_set36 HL.out] at hs) | ((with_reducible apply stc hs.b0); exact rfl; exact rfl; exact rfl; exact rfl; exact pm_s37 HL.out; exact one4; exact rfl; clear hs; intro w hs; rw [pm_set37 HL.out] at hs) | ((with_reducible apply stc hs.b0); exact rfl; exact rfl; exact rfl; exact rfl; exact pm_s38 HL.out; exact one22; exact rfl; clear hs; intro w hs; rw [pm_set38 HL.out] at hs) | ((with_reducible refine wrap hs ?_); clear hs; intro w hs) | ((with_reducible refine wrapn hs ?_); clear hs; intro w hs) | ((with_reducible refine wrapd hs ?_); clear hs; intro w hs)))
    go_ret
    exact Acts.none (sat.prs_close (p := p) HI.out HT.out hs)
end Go.Proofs.Ytojgdpccjlgmiaa
