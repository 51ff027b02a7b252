/- Law 6: the document's rows: halves that are alone. -/
import Derived.Test.YtdcagaaanbgcoaaSf
import Derived.Test.YtdcagaaanbgcoaaV9
namespace Go.Proofs.Ytdcagaaanbgcoaa
open Go.RowKit Go.Mem Go.Cells
variable {W w : World} {H : List HProp}
def wi (ws : List Int) : List Value := ws.map (Value.int .i64)
theorem wi_get {ws : List Int} {i : Nat} {x : Int} (h : ws[i]? = some x) : (wi ws)[i]? = some (.int .i64 x) := by unfold wi; rw [List.getElem?_map, h]; rfl
theorem wi_len (ws : List Int) : (wi ws).length = ws.length := List.length_map _
theorem wi_set (ws : List Int) (i : Nat) (x : Int) : (wi ws).set i (.int .i64 x) = wi (ws.set i x) := by unfold wi; rw [List.map_set]
theorem wi_app (ws : List Int) (x : Int) : wi ws ++ [.int .i64 x] = wi (ws ++ [x]) := by unfold wi; rw [List.map_append]; rfl
/-- Is a half alone? -/
def alone (p : Option Int) (c : C) (k : Int) (q : Option Int) : Prop := (c.w = 1 ∧ (q ≠ some (k + 1) ∨ k < 0)) ∨ (c.w = 2 ∧ (p ≠ some (k - 1) ∨ k < 0))
instance (p : Option Int) (c : C) (k : Int) (q : Option Int) : Decidable (alone p c k q) := by unfold alone; infer_instance
def wh : Option Int → List (C × Int) → List C
  | _, [] => []
  | p, (c, k) :: l => if alone p c k (l.head?.map (·.2)) then bC c.a :: wh (some (-2)) l else c :: wh (some k) l
theorem wh_length : ∀ (p : Option Int) (l : List (C × Int)), (wh p l).length = l.length
  | _, [] => rfl
  | p, (c, k) :: l => by unfold wh; split <;> simp [wh_length]
def pw (ws : List Int) : Nat → Option Int
  | 0 => none
  | k + 1 => ws[k]?
theorem pw_succ (ws : List Int) (k : Nat) : pw ws (k + 1) = ws[k]? := rfl
def WHL (l : List C) (ws0 : List Int) (i : Nat) (cs : List C) (ws : List Int) : Prop := cs.length = ws.length ∧ wh none (l.zip ws0) = cs.take i ++ wh (pw ws i) ((cs.drop i).zip (ws.drop i))
theorem whl_start {l : List C} {ws : List Int} (h : l.length = ws.length) : WHL l ws 0 l ws := ⟨h, by simp [pw]⟩
theorem whl_end {l cs : List C} {ws0 ws : List Int} {i : Nat} (h : WHL l ws0 i cs ws) (hi : cs.length ≤ i) : wh none (l.zip ws0) = cs := by
  rw [h.2, List.drop_eq_nil_of_le hi, List.take_of_length_le hi, List.zip_nil_left, wh, List.append_nil]
theorem whl_step {l cs : List C} {ws0 ws : List Int} {i : Nat} {c : C} {k : Int} (h : WHL l ws0 i cs ws) (hc : cs[i]? = some c) (hk : ws[i]? = some k) :
    (alone (pw ws i) c k ws[i + 1]? → WHL l ws0 (i + 1) (cs.set i (bC c.a)) (ws.set i (-2))) ∧ (¬ alone (pw ws i) c k ws[i + 1]? → WHL l ws0 (i + 1) cs ws) := by
  have hlt : i < cs.length := (List.getElem?_eq_some_iff.1 hc).1
  have hlt2 : i < ws.length := (List.getElem?_eq_some_iff.1 hk).1
  have e : cs.drop i = c :: cs.drop (i + 1) := by
    rw [List.drop_eq_getElem_cons hlt]
    congr 1
    rw [List.getElem?_eq_getElem hlt] at hc
    exact Option.some.inj hc
  have e2 : ws.drop i = k :: ws.drop (i + 1) := by
    rw [List.drop_eq_getElem_cons hlt2]
    congr 1
    rw [List.getElem?_eq_getElem hlt2] at hk
    exact Option.some.inj hk
  have eh : (((cs.drop (i + 1)).zip (ws.drop (i + 1))).head?).map (·.2) = ws[i + 1]? := by
    have hl := h.1
    by_cases hi : i + 1 < cs.length
    · rw [List.drop_eq_getElem_cons hi, List.drop_eq_getElem_cons (show i + 1 < ws.length by omega), List.zip_cons_cons, List.getElem?_eq_getElem (show i + 1 < ws.length by omega)]
      rfl
    · rw [List.drop_eq_nil_of_le (show cs.length ≤ i + 1 by omega), List.getElem?_eq_none (show ws.length ≤ i + 1 by omega)]
      rfl
  obtain ⟨h1, h2⟩ := h
  rw [e, e2, List.zip_cons_cons, wh, eh] at h2
  constructor
  · intro ha
    rw [if_pos ha] at h2
    refine ⟨by rw [List.length_set, List.length_set, h1], ?_⟩
    rw [h2, List.take_set, List.drop_set_of_lt (by omega), List.drop_set_of_lt (by omega)]
    have e3 : (cs.take (i + 1)).set i (bC c.a) = cs.take i ++ [bC c.a] := by
      rw [List.take_add_one, hc]
      simp only [Option.toList]
      rw [List.set_append_right _ _ (by rw [List.length_take]; omega), List.length_take, Nat.min_eq_left (by omega), Nat.sub_self]
      rfl
    rw [e3, pw_succ, List.getElem?_set_self hlt2]
    simp
  · intro ha
    rw [if_neg ha] at h2
    refine ⟨h1, ?_⟩
    rw [h2, List.take_add_one, hc, pw_succ, hk]
    simp
theorem pf_rowsT {T b g n p : Nat} {F : List (Nat × Value)} {xs : List Value} (hF : ∀ q ∈ F, xs[q.1]? = some q.2) (hs : sat W [cel b T [.slice (some ⟨g, 0, none⟩) n p], own 110 6 (.slice (some ⟨g, 0, none⟩) n p) n xs] w) : sat W [cel b T [.slice (some ⟨g, 0, none⟩) n p], pf g F] w := by
  have h1 := hs.b1
  rcases h1.own_cases.2 with ⟨e, _⟩ | ⟨g', cap, cur, e, _, _, _, ht, hb⟩
  · cases e
  · cases e
    refine (hb.imp (B := pf g F) fun h k => ⟨cur, 110, k, fun q hq => ?_⟩).b1
    have h2 := hF q hq
    rw [← ht, List.getElem?_take] at h2
    split at h2
    · simpa using h2
    · cases h2
theorem stoc {P : Program} {ops : Array Oper} {rest : List Oper} {o : Oper} {a : Act} {Q : Exit → Act → World → Prop} {T ty : TypeId} {size n b i : Nat} {xs : List Value} {v : Value} {x : Operand} {cap : Nat} (hs : sat W (own T size (.slice (some ⟨b, 0, none⟩) n cap) n xs :: H) w) (ho : o.op = .store ty x (.const v)) (hw : Region.wanted o (yielded ops a.tmps) = true) (hx : a.eval x = .pointer (some ⟨b, i, none⟩))
    (h1 : v.oneCell' = true) (hi : xs[i]?.isSome = true) (ht : oneTy P ty = true) (hd : o.dst = none)
    (h : ∀ w', sat W (own T size (.slice (some ⟨b, 0, none⟩) n cap) n (xs.set i v) :: H) w' → wpList P ops Q rest a w') : wpList P ops Q (o :: rest) a w := by
  refine BigFrame.wpList_want hw fun K hK => ?_
  obtain ⟨u, hu⟩ := Option.isSome_iff_exists.1 hi
  have hc : w.cell? ⟨b, i, none⟩ = some u := hs.own_cell hu
  have hy' : a.eval (.const v) = v := rfl
  unfold Oper.wp execOp
  simp only [ho, hx, hy', Sem.run_bind, Sem.run_pure, Result.andThen_ok, run_storeAt_one ht hc hs.own_frozen h1]
  rw [Oper.upon_skip, hd]
  exact hK _ _ (h _ (hs.own_set v))
theorem one3 : oneTy Try.prog 3 = true := by kernel_rfl
attribute [local irreducible] rowTy oneTy World.setCell World.setCells World.alloc World.drew World.drewN Calls sat cel own blk old wpQuiet wpList cmb cmb1 rwP cls rws WHL wi wh
set_option maxHeartbeats 2000000 in
set_option maxRecDepth 8000 in
theorem whole52 {b n cw : Nat} {l : List C} {ws0 : List Int} {aw : Option Addr} (hn : l.length = n) (hwn : ws0.length = n) (h0 : 0 < n) (h512 : n ≤ 1000) (hwb : ∀ k ∈ ws0, -2 ≤ k ∧ k ≤ 1000) (hs : sat W (rwP 100 b l :: own 3 1 (.slice aw n cw) n (wi ws0) :: H) w) : Calls Try.prog 77 #[.pointer (some ⟨b, 0, none⟩), .slice aw n cw] w fun e w' => e = .returned (.tuple #[]) ∧ sat W (rwP 100 b (wh none (l.zip ws0)) :: H) w' := by
  obtain ⟨ps, a, p, hps, hs⟩ := rw_open hn hs
  have hpn : ps.length = n := by rw [← hn, ← hps, List.length_map]
  obtain ⟨g, rfl⟩ := own_ptr h0 hs.b1
  obtain ⟨gw, rfl⟩ := own_ptr h0 hs.b3
  have HP0 : Hid (ps.length = n) := Lib.hid hpn
  have HM0 : Hid (WHL l ws0 0 (ps.map (·.c)) ws0 ∧ ws0.length = n ∧ ∀ k ∈ ws0, -2 ≤ k ∧ k ≤ 1000) := Lib.hid ⟨by rw [hps]; exact whl_start (by rw [hn, hwn]), hwn, hwb⟩
  clear hpn hps hn hwn hwb
  go_enter Try.func77, Try.ntmps77
  go_wp2_with (fail)
  go_loopw [4] (fun i wx => ∃ (i0 : Nat) (ps : List PC) (ws : List Int), i0 ≤ n ∧ i = .int .i64 (i0 : Int) ∧ Hid (ps.length = n) ∧ Hid (WHL l ws0 i0 (ps.map (·.c)) ws ∧ ws.length = n ∧ ∀ k ∈ ws, -2 ≤ k ∧ k ≤ 1000) ∧ sat W (cel b 100 [.slice (some ⟨g, 0, none⟩) n p] :: own 110 6 (.slice (some ⟨g, 0, none⟩) n p) n (rws ps).flatten :: own 3 1 (.slice (some ⟨gw, 0, none⟩) n cw) n (wi ws) :: cmb ps :: H) wx) (fun i _ => ((n : Int) - intOf i).toNat)
  case atStart => exact ⟨0, ps, ws0, Nat.zero_le _, rfl, HP0, HM0, by refine sb_from ?_ hs; repeat constructor⟩
  case round =>
    clear hs HP0 HM0 ps
    obtain ⟨i0, ps, ws, hi, rfl, HP, HM, hs⟩ := hrel
    by_cases hin : i0 < n
    · have hpn := HP.out
      have hwl := HM.out.2.1
      obtain ⟨x, hx⟩ : ∃ x, ps[i0]? = some x := ⟨_, List.getElem?_eq_getElem (by omega)⟩
      obtain ⟨k, hk⟩ : ∃ k, ws[i0]? = some k := ⟨_, List.getElem?_eq_getElem (by omega)⟩
      have hkb := HM.out.2.2 k (List.mem_of_getElem? hk)
      have hkb1 := hkb.1
      have hkb2 := hkb.2
      have hcx : (ps.map (·.c))[i0]? = some x.c := by rw [List.getElem?_map, hx]; rfl
      have HX := Lib.hid (rws_get hx)
      have HXX := Lib.hid hx
      have HW := Lib.hid (wi_get hk)
      have HSTEP := Lib.hid (whl_step HM.out.1 hcx hk)
      obtain ⟨⟨r, cb, wd, at_⟩, xa, xp⟩ := x
      simp only at hcx HX HSTEP HXX
      clear hkb hpn hwl hcx hk hx
      obtain ⟨A1, hA1⟩ : ∃ A1 : Bool, decide (wd = 1 ∧ (ws[i0 + 1]? ≠ some (k + 1) ∨ k < 0)) = A1 := ⟨_, rfl⟩
      obtain ⟨A2, hA2⟩ : ∃ A2 : Bool, decide (wd = 2 ∧ (pw ws i0 ≠ some (k - 1) ∨ k < 0)) = A2 := ⟨_, rfl⟩
      have HA1 := Lib.hid hA1
      have HA2 := Lib.hid hA2
      have HW1 : Hid (A1 = true → A2 = false) := Lib.hid (by
        intro h
        rw [h] at hA1
        rw [← hA2]
        apply decide_eq_false
        have := (of_decide_eq_true hA1).1
        omega)
      clear hA1 hA2
      go_upto_if 23 with (first | (((with_reducible apply ldof hs.b1); exact rfl; exact rfl; exact rfl; exact HX.out; exact rws6 _; exact rfl; exact one5)) | ((with_reducible refine isl ?_); first | ((with_reducible apply ldx); exact rfl; exact rfl; exact rfl; exact hs.b0; exact rfl; kernel_rfl)))
      go_cut [5] (fun v wx => v = .bool A1 ∧ sat W (cel b 100 [.slice (some ⟨g, 0, none⟩) n p] :: own 110 6 (.slice (some ⟨g, 0, none⟩) n p) n (rws ps).flatten :: own 3 1 (.slice (some ⟨gw, 0, none⟩) n cw) n (wi ws) :: cmb ps :: H) wx)
      case first =>
        by_cases k1 : wd = 1
        · subst k1
          by_cases kn : ((i0 : Int) + 1) = (n : Int)
          · have qah := kn
            have qa1 : (((i0 : Int) + 1) == (n : Int)) = true := by rw [beq_iff_eq]; exact qah
            have qa2 : decide (((i0 : Int) + 1) = (n : Int)) = true := decide_eq_true qah
            have qa3 : (((i0 : Int) + 1) != (n : Int)) = false := by rw [bne_eq_false_iff_eq]; exact qah
            have HN2 : Hid (ws[i0 + 1]? = none) := Lib.hid (List.getElem?_eq_none (by have := HM.out.2.1; omega))
            clear qah kn
            have HR : Hid (A1 = true) := Lib.hid (by rw [← HA1.out]; rw [HN2.out]; simp)
            clear HSTEP HA1 HA2 HW1 HM HP
            go_wp2_with (fail)
            refine region_mix [] [0, 1, 2, 3, 4, 5, 6, 7, 8, 9, 10, 11, 12, 13, 14, 15, 16, 17, 18, 19, 20, 21, 22, 23, 24, 25, 26, 27, 28] hs (fun _ h => h) (by kernel_rfl) (by kernel_rfl) (fun _ _ _ _ _ h => h) ?_
            simp only [segs, nths, nth, List.append_nil, List.nil_append, List.cons_append, List.map_cons, List.map_nil]
            refine seg_last (fun _ h => h) ?_; intro X f hne hf hcl; (try simp only [Act.put, List.setIfInBounds_toArray, List.set_cons_succ, List.set_cons_zero]); (repeat ((first | ((with_reducible apply ldqx); exact rfl; exact rfl; exact rfl; (exact fun x => (hf x).b0); exact rfl; kernel_rfl) | go_big_quiet_step (fail)); (try simp only [Act.put, List.setIfInBounds_toArray, List.set_cons_succ, List.set_cons_zero]))); refine wpQuiet_nil ?_; clear hcl hf hne hs f X; intro w hs
            go_wp2_with fail
            go_meet
            case rel => exact ⟨by rw [HR.out], by refine sb_from ?_ hs; repeat constructor⟩
          · have qah := kn
            have qa1 : (((i0 : Int) + 1) == (n : Int)) = false := beq_eq_false_iff_ne.2 qah
            have qa2 : decide (((i0 : Int) + 1) = (n : Int)) = false := decide_eq_false qah
            have qa3 : (((i0 : Int) + 1) != (n : Int)) = true := bne_iff_ne.2 qah
            have qi : (i0 : Int) + 1 < (n : Int) := by omega
            have qj : (0 : Int) ≤ (i0 : Int) + 1 := by omega
            obtain ⟨wn, hwn⟩ : ∃ wn, ws[i0 + 1]? = some wn := ⟨_, List.getElem?_eq_getElem (by have := HM.out.2.1; omega)⟩
            have HWn := Lib.hid (wi_get hwn)
            have HN2 := Lib.hid hwn
            clear qah kn hwn
            by_cases k2 : wn = k + 1
            · have qbh := k2
              have qb1 : (wn == (k + 1)) = true := by rw [beq_iff_eq]; exact qbh
              have qb2 : decide (wn = (k + 1)) = true := decide_eq_true qbh
              have qb3 : (wn != (k + 1)) = false := by rw [bne_eq_false_iff_eq]; exact qbh
              have HE := Lib.hid k2
              clear qbh k2
              by_cases k3 : k < 0
              · have g9 : decide (k < 0) = true := decide_eq_true k3
                have HR : Hid (A1 = true) := Lib.hid (by rw [← HA1.out]; rw [HN2.out]; simp [k3])
                clear HSTEP HA1 HA2 HW1 HM HP
                go_wp2_with (fail)
                refine region_mix [] [0, 1, 2, 3, 4, 5, 6, 7, 8, 9, 10, 11, 12, 13, 14, 15, 16, 17, 18, 19, 20, 21, 22, 23, 24, 25, 26, 27, 28] hs (fun _ h => h) (by kernel_rfl) (by kernel_rfl) (fun _ _ _ _ _ h => h) ?_
                simp only [segs, nths, nth, List.append_nil, List.nil_append, List.cons_append, List.map_cons, List.map_nil]
                refine seg_last (fun _ h => h) ?_; intro X f hne hf hcl; (try simp only [Act.put, List.setIfInBounds_toArray, List.set_cons_succ, List.set_cons_zero]); (repeat ((first | ((with_reducible apply ldoq (fun x => (hf x).b2)); exact rfl; exact rfl; exact rfl; (first | exact HW.out | exact HWn.out); kernel_rfl) | ((with_reducible apply ldqx); exact rfl; exact rfl; exact rfl; (exact fun x => (hf x).b0); exact rfl; kernel_rfl) | go_big_quiet_step (fail)); (try simp only [Act.put, List.setIfInBounds_toArray, List.set_cons_succ, List.set_cons_zero]))); refine wpQuiet_nil ?_; clear hcl hf hne hs f X; intro w hs
                go_wp2_with fail
                go_meet
                case rel => exact ⟨by rw [HR.out], by refine sb_from ?_ hs; repeat constructor⟩
              · have g9 : decide (k < 0) = false := decide_eq_false k3
                have HR : Hid (A1 = false) := Lib.hid (by rw [← HA1.out]; rw [HN2.out, HE.out]; simp; omega)
                clear HSTEP HA1 HA2 HW1 HM HP
                go_wp2_with (fail)
                refine region_mix [] [0, 1, 2, 3, 4, 5, 6, 7, 8, 9, 10, 11, 12, 13, 14, 15, 16, 17, 18, 19, 20, 21, 22, 23, 24, 25, 26, 27, 28] hs (fun _ h => h) (by kernel_rfl) (by kernel_rfl) (fun _ _ _ _ _ h => h) ?_
                simp only [segs, nths, nth, List.append_nil, List.nil_append, List.cons_append, List.map_cons, List.map_nil]
                refine seg_last (fun _ h => h) ?_; intro X f hne hf hcl; (try simp only [Act.put, List.setIfInBounds_toArray, List.set_cons_succ, List.set_cons_zero]); (repeat ((first | ((with_reducible apply ldoq (fun x => (hf x).b2)); exact rfl; exact rfl; exact rfl; (first | exact HW.out | exact HWn.out); kernel_rfl) | ((with_reducible apply ldqx); exact rfl; exact rfl; exact rfl; (exact fun x => (hf x).b0); exact rfl; kernel_rfl) | go_big_quiet_step (fail)); (try simp only [Act.put, List.setIfInBounds_toArray, List.set_cons_succ, List.set_cons_zero]))); refine wpQuiet_nil ?_; clear hcl hf hne hs f X; intro w hs
                go_wp2_with fail
                go_meet
                case rel => exact ⟨by rw [HR.out], by refine sb_from ?_ hs; repeat constructor⟩
            · have qbh := k2
              have qb1 : (wn == (k + 1)) = false := beq_eq_false_iff_ne.2 qbh
              have qb2 : decide (wn = (k + 1)) = false := decide_eq_false qbh
              have qb3 : (wn != (k + 1)) = true := bne_iff_ne.2 qbh
              have HE := Lib.hid k2
              clear qbh k2
              have HR : Hid (A1 = true) := Lib.hid (by rw [← HA1.out]; rw [HN2.out]; simp [HE.out])
              clear HSTEP HA1 HA2 HW1 HM HP
              go_wp2_with (fail)
              refine region_mix [] [0, 1, 2, 3, 4, 5, 6, 7, 8, 9, 10, 11, 12, 13, 14, 15, 16, 17, 18, 19, 20, 21, 22, 23, 24, 25, 26, 27, 28] hs (fun _ h => h) (by kernel_rfl) (by kernel_rfl) (fun _ _ _ _ _ h => h) ?_
              simp only [segs, nths, nth, List.append_nil, List.nil_append, List.cons_append, List.map_cons, List.map_nil]
              refine seg_last (fun _ h => h) ?_; intro X f hne hf hcl; (try simp only [Act.put, List.setIfInBounds_toArray, List.set_cons_succ, List.set_cons_zero]); (repeat ((first | ((with_reducible apply ldoq (fun x => (hf x).b2)); exact rfl; exact rfl; exact rfl; (first | exact HW.out | exact HWn.out); kernel_rfl) | ((with_reducible apply ldqx); exact rfl; exact rfl; exact rfl; (exact fun x => (hf x).b0); exact rfl; kernel_rfl) | go_big_quiet_step (fail)); (try simp only [Act.put, List.setIfInBounds_toArray, List.set_cons_succ, List.set_cons_zero]))); refine wpQuiet_nil ?_; clear hcl hf hne hs f X; intro w hs
              go_wp2_with fail
              go_meet
              case rel => exact ⟨by rw [HR.out], by refine sb_from ?_ hs; repeat constructor⟩
        · have qah := k1
          have qa1 : (wd == 1) = false := beq_eq_false_iff_ne.2 qah
          have qa2 : decide (wd = 1) = false := decide_eq_false qah
          have qa3 : (wd != 1) = true := bne_iff_ne.2 qah
          have HE := Lib.hid k1
          clear qah k1
          have HR : Hid (A1 = false) := Lib.hid (by rw [← HA1.out]; apply decide_eq_false; intro h; exact HE.out h.1)
          clear HSTEP HA1 HA2 HW1 HM HP
          go_wp2_with (fail)
          go_meet
          case rel => exact ⟨by rw [HR.out], by refine sb_from ?_ hs; repeat constructor⟩
      case rest =>
        clear hs
        obtain ⟨rfl, hs⟩ := hcut
        go_upto_if 60 with (first | (((with_reducible apply ldof hs.b1); exact rfl; exact rfl; exact rfl; exact HX.out; exact rws6 _; exact rfl; exact one5)) | ((with_reducible refine isl ?_); first | ((with_reducible apply ldx); exact rfl; exact rfl; exact rfl; exact hs.b0; exact rfl; kernel_rfl)))
        go_cut [5] (fun v wx => v = .bool (A1 || A2) ∧ sat W (cel b 100 [.slice (some ⟨g, 0, none⟩) n p] :: own 110 6 (.slice (some ⟨g, 0, none⟩) n p) n (rws ps).flatten :: own 3 1 (.slice (some ⟨gw, 0, none⟩) n cw) n (wi ws) :: cmb ps :: H) wx)
        case first =>
          by_cases k1 : wd = 2
          · subst k1
            have HRA : Hid (A1 = false) := Lib.hid (by rw [← HA1.out]; apply decide_eq_false; intro h; exact absurd h.1 (by decide))
            by_cases kn : (i0 : Int) = 0
            · have qah := kn
              have qa1 : ((i0 : Int) == 0) = true := by rw [beq_iff_eq]; exact qah
              have qa2 : decide ((i0 : Int) = 0) = true := decide_eq_true qah
              have qa3 : ((i0 : Int) != 0) = false := by rw [bne_eq_false_iff_eq]; exact qah
              have HN2 : Hid (pw ws i0 = none) := Lib.hid (by rw [show i0 = 0 from by omega]; rfl)
              clear qah kn
              have HR : Hid (A2 = true) := Lib.hid (by rw [← HA2.out]; rw [HN2.out]; simp)
              clear HSTEP HA1 HA2 HW1 HM HP
              go_wp2_with (fail)
              refine region_mix [] [0, 1, 2, 3, 4, 5, 6, 7, 8, 9, 10, 11, 12, 13, 14, 15, 16, 17, 18, 19, 20, 21, 22] hs (fun _ h => h) (by kernel_rfl) (by kernel_rfl) (fun _ _ _ _ _ h => h) ?_
              simp only [segs, nths, nth, List.append_nil, List.nil_append, List.cons_append, List.map_cons, List.map_nil]
              refine seg_last (fun _ h => h) ?_; intro X f hne hf hcl; (try simp only [Act.put, List.setIfInBounds_toArray, List.set_cons_succ, List.set_cons_zero]); (repeat ((go_big_quiet_step (fail)); (try simp only [Act.put, List.setIfInBounds_toArray, List.set_cons_succ, List.set_cons_zero]))); refine wpQuiet_nil ?_; clear hcl hf hne hs f X; intro w hs
              go_wp2_with fail
              go_meet
              case rel => exact ⟨by rw [HR.out, HRA.out]; rfl, by refine sb_from ?_ hs; repeat constructor⟩
            · have qah := kn
              have qa1 : ((i0 : Int) == 0) = false := beq_eq_false_iff_ne.2 qah
              have qa2 : decide ((i0 : Int) = 0) = false := decide_eq_false qah
              have qa3 : ((i0 : Int) != 0) = true := bne_iff_ne.2 qah
              have hsub : ((i0 : Int) - 1) = ((i0 - 1 : Nat) : Int) := by omega
              obtain ⟨wp, hwp⟩ : ∃ wp, ws[i0 - 1]? = some wp := ⟨_, List.getElem?_eq_getElem (by have := HM.out.2.1; omega)⟩
              have HWp := Lib.hid (wi_get hwp)
              have HN2 : Hid (pw ws i0 = some wp) := Lib.hid (by obtain ⟨j, hj⟩ : ∃ j, i0 = j + 1 := ⟨i0 - 1, by omega⟩; rw [hj, pw_succ, ← hwp, hj]; rfl)
              clear qah kn hwp
              by_cases k2 : wp = k - 1
              · have qbh := k2
                have qb1 : (wp == (k - 1)) = true := by rw [beq_iff_eq]; exact qbh
                have qb2 : decide (wp = (k - 1)) = true := decide_eq_true qbh
                have qb3 : (wp != (k - 1)) = false := by rw [bne_eq_false_iff_eq]; exact qbh
                have HE := Lib.hid k2
                clear qbh k2
                by_cases k3 : k < 0
                · have g9 : decide (k < 0) = true := decide_eq_true k3
                  have HR : Hid (A2 = true) := Lib.hid (by rw [← HA2.out]; rw [HN2.out]; simp [k3])
                  clear HSTEP HA1 HA2 HW1 HM HP
                  go_wp2_with (fail)
                  refine region_mix [] [0, 1, 2, 3, 4, 5, 6, 7, 8, 9, 10, 11, 12, 13, 14, 15, 16, 17, 18, 19, 20, 21, 22] hs (fun _ h => h) (by kernel_rfl) (by kernel_rfl) (fun _ _ _ _ _ h => h) ?_
                  simp only [segs, nths, nth, List.append_nil, List.nil_append, List.cons_append, List.map_cons, List.map_nil]
                  refine seg_last (fun _ h => h) ?_; intro X f hne hf hcl; (try simp only [Act.put, List.setIfInBounds_toArray, List.set_cons_succ, List.set_cons_zero]); (repeat ((first | ((with_reducible apply ldoq (fun x => (hf x).b2)); exact rfl; exact rfl; exact rfl; (first | exact HW.out | exact HWp.out); kernel_rfl) | go_big_quiet_step (fail)); (try simp only [Act.put, List.setIfInBounds_toArray, List.set_cons_succ, List.set_cons_zero]))); refine wpQuiet_nil ?_; clear hcl hf hne hs f X; intro w hs
                  go_wp2_with fail
                  go_meet
                  case rel => exact ⟨by rw [HR.out, HRA.out]; rfl, by refine sb_from ?_ hs; repeat constructor⟩
                · have g9 : decide (k < 0) = false := decide_eq_false k3
                  have HR : Hid (A2 = false) := Lib.hid (by rw [← HA2.out]; rw [HN2.out, HE.out]; simp; omega)
                  clear HSTEP HA1 HA2 HW1 HM HP
                  go_wp2_with (fail)
                  refine region_mix [] [0, 1, 2, 3, 4, 5, 6, 7, 8, 9, 10, 11, 12, 13, 14, 15, 16, 17, 18, 19, 20, 21, 22] hs (fun _ h => h) (by kernel_rfl) (by kernel_rfl) (fun _ _ _ _ _ h => h) ?_
                  simp only [segs, nths, nth, List.append_nil, List.nil_append, List.cons_append, List.map_cons, List.map_nil]
                  refine seg_last (fun _ h => h) ?_; intro X f hne hf hcl; (try simp only [Act.put, List.setIfInBounds_toArray, List.set_cons_succ, List.set_cons_zero]); (repeat ((first | ((with_reducible apply ldoq (fun x => (hf x).b2)); exact rfl; exact rfl; exact rfl; (first | exact HW.out | exact HWp.out); kernel_rfl) | go_big_quiet_step (fail)); (try simp only [Act.put, List.setIfInBounds_toArray, List.set_cons_succ, List.set_cons_zero]))); refine wpQuiet_nil ?_; clear hcl hf hne hs f X; intro w hs
                  go_wp2_with fail
                  go_meet
                  case rel => exact ⟨by rw [HR.out, HRA.out]; rfl, by refine sb_from ?_ hs; repeat constructor⟩
              · have qbh := k2
                have qb1 : (wp == (k - 1)) = false := beq_eq_false_iff_ne.2 qbh
                have qb2 : decide (wp = (k - 1)) = false := decide_eq_false qbh
                have qb3 : (wp != (k - 1)) = true := bne_iff_ne.2 qbh
                have HE := Lib.hid k2
                clear qbh k2
                have HR : Hid (A2 = true) := Lib.hid (by rw [← HA2.out]; rw [HN2.out]; simp [HE.out])
                clear HSTEP HA1 HA2 HW1 HM HP
                go_wp2_with (fail)
                refine region_mix [] [0, 1, 2, 3, 4, 5, 6, 7, 8, 9, 10, 11, 12, 13, 14, 15, 16, 17, 18, 19, 20, 21, 22] hs (fun _ h => h) (by kernel_rfl) (by kernel_rfl) (fun _ _ _ _ _ h => h) ?_
                simp only [segs, nths, nth, List.append_nil, List.nil_append, List.cons_append, List.map_cons, List.map_nil]
                refine seg_last (fun _ h => h) ?_; intro X f hne hf hcl; (try simp only [Act.put, List.setIfInBounds_toArray, List.set_cons_succ, List.set_cons_zero]); (repeat ((first | ((with_reducible apply ldoq (fun x => (hf x).b2)); exact rfl; exact rfl; exact rfl; (first | exact HW.out | exact HWp.out); kernel_rfl) | go_big_quiet_step (fail)); (try simp only [Act.put, List.setIfInBounds_toArray, List.set_cons_succ, List.set_cons_zero]))); refine wpQuiet_nil ?_; clear hcl hf hne hs f X; intro w hs
                go_wp2_with fail
                go_meet
                case rel => exact ⟨by rw [HR.out, HRA.out]; rfl, by refine sb_from ?_ hs; repeat constructor⟩
          · have qah := k1
            have qa1 : (wd == 2) = false := beq_eq_false_iff_ne.2 qah
            have qa2 : decide (wd = 2) = false := decide_eq_false qah
            have qa3 : (wd != 2) = true := bne_iff_ne.2 qah
            have HE := Lib.hid k1
            clear qah k1
            have HR : Hid (A2 = false) := Lib.hid (by rw [← HA2.out]; apply decide_eq_false; intro h; exact HE.out h.1)
            clear HSTEP HA1 HA2 HW1 HM HP
            go_wp2_with (fail)
            go_meet
            case rel => exact ⟨by rw [HR.out, Bool.or_false], by refine sb_from ?_ hs; repeat constructor⟩
        case rest =>
          clear hs
          obtain ⟨rfl, hs⟩ := hcut
          have HWL2 := HM.out.2
          cases hA : (A1 || A2) with
          | false =>
            have HM2 : Hid (WHL l ws0 (i0 + 1) (ps.map (·.c)) ws ∧ ws.length = n ∧ ∀ k ∈ ws, -2 ≤ k ∧ k ≤ 1000) := Lib.hid ⟨HSTEP.out.2 (by
              have h := Bool.or_eq_false_iff.1 hA
              have h1 := of_decide_eq_false (HA1.out.trans h.1)
              have h2 := of_decide_eq_false (HA2.out.trans h.2)
              rintro (h3 | h3)
              · exact h1 h3
              · exact h2 h3), HWL2⟩
            clear hA HSTEP HA1 HA2 HW1 HM HWL2
            go_wp2_with fail
            go_roundw
            case rel => exact ⟨i0 + 1, ps, ws, by omega, by go_num, HP, HM2, hs⟩
            case measure => simp [intOf]; omega
          | true =>
            have HM2 : Hid (WHL l ws0 (i0 + 1) ((ps.set i0 (PC.bl at_)).map (·.c)) (ws.set i0 (-2)) ∧ (ws.set i0 (-2)).length = n ∧ ∀ k ∈ ws.set i0 (-2), -2 ≤ k ∧ k ≤ 1000) := Lib.hid ⟨by
              rw [List.map_set]
              refine HSTEP.out.1 ?_
              rcases Bool.or_eq_true_iff.1 hA with h | h
              · exact .inl (of_decide_eq_true (HA1.out.trans h))
              · exact .inr (of_decide_eq_true (HA2.out.trans h)), by rw [List.length_set]; exact HWL2.1, fun k hk => by
              rcases List.mem_or_eq_of_mem_set hk with h | h
              · exact HWL2.2 k h
              · rw [h]; decide⟩
            have HL : Hid (i0 < (rws ps).length) := Lib.hid (by rw [rws_len, HP.out]; exact hin)
            have HS : Hid ((rws ps).set i0 [.int .i32 32, .slice none 0 0, .int .u8 0, .int .u32 at_.fg, .int .u32 at_.bg, .int .u16 at_.fl] = rws (ps.set i0 (PC.bl at_))) := Lib.hid (rws_set ps i0 (PC.bl at_))
            have HWS : Hid ((wi ws)[i0]?.isSome = true) := Lib.hid (by rw [HW.out]; rfl)
            have HWT : Hid ((wi ws).set i0 (.int .i64 (-2)) = wi (ws.set i0 (-2))) := Lib.hid (wi_set ws i0 (-2))
            obtain ⟨F, hF⟩ : ∃ F, attF i0 at_ = F := ⟨_, rfl⟩
            have HMF : Hid (∀ k v, ([.int .u32 at_.fg, .int .u32 at_.bg, .int .u16 at_.fl] : List Value)[k]? = some v → (i0 * 6 + 3 + k, v) ∈ F) := Lib.hid fun k v h => by rw [← hF]; exact attF_mem k v h
            have HF0 : Hid (∀ q ∈ F, (rws ps).flatten[q.1]? = some q.2) := Lib.hid (by rw [← hF]; exact attF_rows HXX.out)
            have HF1 : Hid (∀ q ∈ F, (rws (ps.set i0 (PC.bl at_))).flatten[q.1]? = some q.2) := Lib.hid (by rw [← hF]; exact attF_rows (x := PC.bl at_) (List.getElem?_set_self (by rw [HP.out]; exact hin)))
            have HPP : Hid ((ps.set i0 (PC.bl at_)).length = n) := Lib.hid (by rw [List.length_set]; exact HP.out)
            clear hA HSTEP HA1 HA2 HW1 HM HWL2 hF
            go_wp2_with fail
            refine region_mix [([0, 1, 2, 3, 4, 5, 6, 7, 8, 9, 10, 11, 12, 13, 14], [15])] [] hs (fun _ h => by (show sat W [cel b 100 [.slice (some ⟨g, 0, none⟩) n p], pf g F] _; first | (refine pf_rowsT HF0.out ?_; refine sb_from ?_ h; (repeat constructor); done))) (by kernel_rfl) (by kernel_rfl) (fun _ _ _ _ _ h => h) ?_
            simp only [segs, nths, nth, List.append_nil, List.nil_append, List.cons_append, List.map_cons, List.map_nil]
            refine seg_reads (fun _ h => by (show sat W [cel b 100 [.slice (some ⟨g, 0, none⟩) n p], pf g F] _; first | (refine pf_rowsT HF0.out ?_; refine sb_from ?_ h; (repeat constructor); done))) ?_; intro X f hne hf hcl; (try simp only [Act.put, List.setIfInBounds_toArray, List.set_cons_succ, List.set_cons_zero]); (repeat ((first | (apply ldpsq (fun x => (hf x).b1); exact rfl; exact rfl; exact rfl; exact HMF.out; exact row33) | ((with_reducible apply ldqx); exact rfl; exact rfl; exact rfl; exact fun x => (hf x).b0; exact rfl; kernel_rfl) | go_big_quiet_step (fail)); (try simp only [Act.put, List.setIfInBounds_toArray, List.set_cons_succ, List.set_cons_zero]))); refine wpQuiet_nil ?_; clear hcl hf hne hs f X; intro w hs
            go_wp2_with ((((with_reducible apply stor hs.b1); exact rfl; exact rfl; exact rfl; exact rfl; exact HL.out; exact rws6 _; exact row41; exact rfl; exact rfl; exact rfl; clear hs; intro w hs; rw [HS.out] at hs)))
            (refine seg_on hs (fun _ h => h) ?_ ?_)
            · exact fun _ h => by (show sat W [cel b 100 [.slice (some ⟨g, 0, none⟩) n p], pf g F] _; first | (refine pf_rowsT HF1.out ?_; refine sb_from ?_ h; (repeat constructor); done))
            clear hs; intro hs
            refine seg_last (fun _ h => by (show sat W [cel b 100 [.slice (some ⟨g, 0, none⟩) n p], pf g F] _; first | (refine pf_rowsT HF1.out ?_; refine sb_from ?_ h; (repeat constructor); done))) ?_; intro X f hne hf hcl; (try simp only [Act.put, List.setIfInBounds_toArray, List.set_cons_succ, List.set_cons_zero]); (repeat ((fail); (try simp only [Act.put, List.setIfInBounds_toArray, List.set_cons_succ, List.set_cons_zero]))); refine wpQuiet_nil ?_; clear hcl hf hne hs f X; intro w hs
            go_wp2_with (((apply stoc hs.b2; exact rfl; exact rfl; exact rfl; exact rfl; exact HWS.out; exact one3; exact rfl; clear hs; intro w hs; rw [HWT.out] at hs)))
            go_roundw
            case rel =>
              refine ⟨i0 + 1, _, _, by omega, by go_num, HPP, HM2, ?_⟩
              have h6 : sat W (cmb ps :: cel b 100 [.slice (some ⟨g, 0, none⟩) n p] :: own 110 6 (.slice (some ⟨g, 0, none⟩) n p) n (rws (ps.set i0 (PC.bl at_))).flatten :: own 3 1 (.slice (some ⟨gw, 0, none⟩) n cw) n (wi (ws.set i0 (-2))) :: H) w := by refine sb_from ?_ hs; repeat constructor
              have h7 := cmb_set (i := i0) (a := at_) h6
              refine sb_from ?_ h7; repeat constructor
            case measure => simp [intOf]; omega
    · have hge : ¬ (i0 : Int) < (n : Int) := by omega
      have HE : Hid (wh none (l.zip ws0) = ps.map (·.c)) := Lib.hid (whl_end HM.out.1 (by rw [List.length_map, HP.out]; omega))
      clear hin
      go_wp2_with (((with_reducible refine isl ?_); first | ((with_reducible apply ldx); exact rfl; exact rfl; exact rfl; exact hs.b0; exact rfl; kernel_rfl)))
      refine end_end0 rfl rfl ?_
      exact ⟨rfl, by rw [HE.out]; exact rw_close HP.out (by refine sb_from ?_ hs; repeat constructor)⟩
end Go.Proofs.Ytdcagaaanbgcoaa
