/- Law 6: mend. -/
import Derived.Test.YtdcagaaanbgcoaaSf
import Derived.Test.YtdcagaaanbgcoaaV3
namespace Go.Proofs.Ytdcagaaanbgcoaa
open Go.RowKit Go.Mem Go.Cells
variable {W w : World} {H : List HProp}
def pv (cs : List C) : Nat → Int
  | 0 => 0
  | k + 1 => ((cs[k]?).map (·.w)).getD 0
theorem pv_succ (cs : List C) (k : Nat) : pv cs (k + 1) = ((cs[k]?).map (·.w)).getD 0 := rfl
def MD (l : List C) (k : Nat) (cs : List C) : Prop := md 0 l = cs.take k ++ md (pv cs k) (cs.drop k)
theorem md_start (l : List C) : MD l 0 l := by unfold MD; simp [pv]
theorem md_end {l cs : List C} {k : Nat} (h : MD l k cs) (hk : cs.length ≤ k) : md 0 l = cs := by
  unfold MD at h
  rw [h, List.drop_eq_nil_of_le hk, List.take_of_length_le hk, md, List.append_nil]
theorem md_step {l cs : List C} {k : Nat} {c : C} (h : MD l k cs) (hc : cs[k]? = some c) :
    ((c.w = 1 ∧ (cs[k + 1]?).map (·.w) ≠ some 2) ∨ (c.w = 2 ∧ pv cs k ≠ 1) → MD l (k + 1) (cs.set k (bC c.a))) ∧ (¬ ((c.w = 1 ∧ (cs[k + 1]?).map (·.w) ≠ some 2) ∨ (c.w = 2 ∧ pv cs k ≠ 1)) → MD l (k + 1) cs) := by
  have hlt : k < cs.length := (List.getElem?_eq_some_iff.1 hc).1
  have e : cs.drop k = c :: cs.drop (k + 1) := by
    rw [List.drop_eq_getElem_cons hlt]
    congr 1
    rw [List.getElem?_eq_getElem hlt] at hc
    exact Option.some.inj hc
  have eh : (cs.drop (k + 1)).head? = cs[k + 1]? := List.head?_drop
  unfold MD at h ⊢
  rw [e, md, eh] at h
  constructor
  · intro ha
    rw [if_pos ha] at h
    rw [h, List.take_set, List.drop_set_of_lt (by omega)]
    have e2 : (cs.take (k + 1)).set k (bC c.a) = cs.take k ++ [bC c.a] := by
      rw [List.take_add_one, hc]
      simp only [Option.toList]
      rw [List.set_append_right _ _ (by rw [List.length_take]; omega), List.length_take, Nat.min_eq_left (by omega), Nat.sub_self]
      rfl
    have e3 : pv (cs.set k (bC c.a)) (k + 1) = (bC c.a).w := by
      rw [pv_succ, List.getElem?_set_self hlt]
      rfl
    rw [e2, e3]
    simp
  · intro ha
    rw [if_neg ha] at h
    rw [h, List.take_add_one, hc]
    have e3 : pv cs (k + 1) = c.w := by rw [pv_succ, hc]; rfl
    rw [e3]
    simp
attribute [local irreducible] rowTy oneTy World.setCell World.setCells World.alloc World.drew World.drewN Calls sat cel own blk old wpQuiet wpList cmb cmb1 rwP cls rws MD
set_option maxHeartbeats 1000000 in
theorem mend44 {b n : Nat} {l : List C} (hn : l.length = n) (h0 : 0 < n) (h512 : n ≤ 1000) (hs : sat W (rwP 96 b l :: H) w) : Calls Try.prog 68 #[.pointer (some ⟨b, 0, none⟩)] w fun e w' => e = .returned (.tuple #[]) ∧ sat W (rwP 96 b (md 0 l) :: H) w' := by
  obtain ⟨ps, a, p, hps, hs⟩ := rw_open hn hs
  have hpn : ps.length = n := by rw [← hn, ← hps, List.length_map]
  obtain ⟨g, rfl⟩ := own_ptr h0 hs.b1
  have HP0 : Hid (ps.length = n) := Lib.hid hpn
  have HM0 : Hid (MD l 0 (ps.map (·.c))) := Lib.hid (by rw [hps]; exact md_start l)
  clear hpn hps hn
  go_enter Try.func68, Try.ntmps68
  go_wp2_with (((with_reducible refine isl ?_); first | ((with_reducible apply ldx); exact rfl; exact rfl; exact rfl; exact hs.b0; exact rfl; kernel_rfl)))
  go_loopw [12] (fun i wr => ∃ (k : Nat) (ps : List PC), k ≤ n ∧ i = .int .i64 (k : Int) ∧ Hid (ps.length = n) ∧ Hid (MD l k (ps.map (·.c))) ∧ sat W (cel b 96 [.slice (some ⟨g, 0, none⟩) n p] :: own 110 6 (.slice (some ⟨g, 0, none⟩) n p) n (rws ps).flatten :: cmb ps :: H) wr) (fun i _ => ((n : Int) - intOf i).toNat)
  case atStart => exact ⟨0, ps, Nat.zero_le _, rfl, HP0, HM0, hs⟩
  case round =>
    clear hs HP0 HM0 ps
    obtain ⟨k, ps, hk, rfl, HP, HM, hs⟩ := hrel
    by_cases hkn : k < n
    · have hpn := HP.out
      obtain ⟨x, hx⟩ : ∃ x, ps[k]? = some x := ⟨_, List.getElem?_eq_getElem (by omega)⟩
      have hcx : (ps.map (·.c))[k]? = some x.c := by rw [List.getElem?_map, hx]; rfl
      have HX := Lib.hid (rws_get hx)
      obtain ⟨⟨r, cb, wd, at_⟩, xa, xp⟩ := x
      simp only at hcx HX
      by_cases k1 : wd = 1
      · subst k1
        by_cases kn : (k : Int) + 1 = (n : Int)
        · have HN2 : Hid ((ps.map (·.c))[k + 1]? = none) := Lib.hid (List.getElem?_eq_none (by rw [List.length_map]; omega))
          have qah : ((k : Int) + 1) = (n : Int) := kn
          have qa1 : (((k : Int) + 1) == (n : Int)) = true := by rw [beq_iff_eq]; exact qah
          have qa2 : decide (((k : Int) + 1) = (n : Int)) = true := decide_eq_true qah
          have qa3 : (((k : Int) + 1) != (n : Int)) = false := by rw [bne_eq_false_iff_eq]; exact qah
          clear qah kn
          have HS : Hid ((rws ps).set k (cV (bC at_) (.slice none 0 0)) = rws (ps.set k (PC.bl at_))) := Lib.hid (rws_set ps k (PC.bl at_))
          have HL : Hid (k < (rws ps).length) := Lib.hid (by rw [rws_len]; omega)
          have HM2 : Hid (MD l (k + 1) (ps.set k (PC.bl at_) |>.map (·.c))) := Lib.hid (by rw [List.map_set]; exact (md_step HM.out hcx).1 (.inl ⟨rfl, by rw [HN2.out]; simp⟩))
          clear hcx hx
          go_wp2_with (first | (((with_reducible apply ldor hs.b1); exact rfl; exact rfl; exact rfl; exact HX.out; exact rws6 _; exact row41)) | ((with_reducible refine isl ?_); first | ((with_reducible refine wrap hs ?_); clear hs; generalize wr.heap.size = z4; intro w hs) | ((with_reducible apply stswx); exact rfl; exact rfl; exact rfl; (exact hs.b0); exact rfl; exact row41; exact rfl; exact rfl; exact rfl; clear hs; intro w hs) | ((with_reducible apply ldx); exact rfl; exact rfl; exact rfl; (exact hs.b0); exact rfl; kernel_rfl)))
          refine region_mix [([0, 1, 2, 3, 4, 5, 6], [7]), ([8], [9])] [] hs (fun _ h => by (show sat W [cel b 96 [.slice (some ⟨g, 0, none⟩) n p], cel z4 110 (cV ⟨r, cb, 1, at_⟩ (.slice xa cb.length xp))] _; refine sb_from ?_ h; repeat constructor)) (by kernel_rfl) (by kernel_rfl) (fun _ _ _ _ _ h => h) ?_
          simp only [segs, nths, nth, List.append_nil, List.nil_append, List.cons_append, List.map_cons, List.map_nil]
          refine seg_reads (fun _ h => by (show sat W [cel b 96 [.slice (some ⟨g, 0, none⟩) n p], cel z4 110 (cV ⟨r, cb, 1, at_⟩ (.slice xa cb.length xp))] _; refine sb_from ?_ h; repeat constructor)) ?_; intro X f hne hf hcl; (try simp only [Act.put, List.setIfInBounds_toArray, List.set_cons_succ, List.set_cons_zero]); (repeat ((first | ((with_reducible apply ldsqx 3); exact rfl; exact rfl; exact rfl; (first | exact fun x => (hf x).b0 | exact fun x => (hf x).b1); exact row33; exact rfl; exact rfl) | ((with_reducible apply ldqx); exact rfl; exact rfl; exact rfl; (exact fun x => (hf x).b0); exact rfl; kernel_rfl) | go_big_quiet_step (fail)); (try simp only [Act.put, List.setIfInBounds_toArray, List.set_cons_succ, List.set_cons_zero]))); refine wpQuiet_nil ?_; clear hcl hf hne hs f X; intro w hs
          go_wp2_with ((go_at_call 67; refine (blank30 (a := at_) hs).mono ?_; clear hs; rintro e w ⟨rfl, hs⟩))
          (refine seg_on hs (fun _ h => h) ?_ ?_)
          · exact fun _ h => by (show sat W [cel b 96 [.slice (some ⟨g, 0, none⟩) n p], cel z4 110 (cV ⟨r, cb, 1, at_⟩ (.slice xa cb.length xp))] _; refine sb_from ?_ h; repeat constructor)
          clear hs; intro hs
          refine seg_reads (fun _ h => by (show sat W [cel b 96 [.slice (some ⟨g, 0, none⟩) n p], cel z4 110 (cV ⟨r, cb, 1, at_⟩ (.slice xa cb.length xp))] _; refine sb_from ?_ h; repeat constructor)) ?_; intro X f hne hf hcl; (try simp only [Act.put, List.setIfInBounds_toArray, List.set_cons_succ, List.set_cons_zero]); (repeat ((go_big_quiet_step (fail)); (try simp only [Act.put, List.setIfInBounds_toArray, List.set_cons_succ, List.set_cons_zero]))); refine wpQuiet_nil ?_; clear hcl hf hne hs f X; intro w hs
          go_wp2_with ((((with_reducible apply stor hs.b2); exact rfl; exact rfl; exact rfl; exact rfl; exact HL.out; exact rws6 _; exact row41; exact rfl; exact rfl; exact rfl; clear hs; intro w hs; rw [HS.out] at hs)))
          (refine seg_on hs (fun _ h => h) ?_ ?_)
          · exact fun _ h => by (show sat W [cel b 96 [.slice (some ⟨g, 0, none⟩) n p], cel z4 110 (cV ⟨r, cb, 1, at_⟩ (.slice xa cb.length xp))] _; refine sb_from ?_ h; repeat constructor)
          clear hs; intro hs
          refine seg_last (fun _ h => by (show sat W [cel b 96 [.slice (some ⟨g, 0, none⟩) n p], cel z4 110 (cV ⟨r, cb, 1, at_⟩ (.slice xa cb.length xp))] _; refine sb_from ?_ h; repeat constructor)) ?_; intro X f hne hf hcl; (try simp only [Act.put, List.setIfInBounds_toArray, List.set_cons_succ, List.set_cons_zero]); (repeat ((fail); (try simp only [Act.put, List.setIfInBounds_toArray, List.set_cons_succ, List.set_cons_zero]))); refine wpQuiet_nil ?_; clear hcl hf hne hs f X; intro w hs
          go_wp2_with fail
          go_roundw
          case rel => exact ⟨k + 1, ps.set k (PC.bl at_), by omega, by go_num, Lib.hid (by rw [List.length_set]; exact HP.out), HM2, by
            have h6 : sat W (cmb ps :: cel b 96 [.slice (some ⟨g, 0, none⟩) n p] :: own 110 6 (.slice (some ⟨g, 0, none⟩) n p) n (rws (ps.set k (PC.bl at_))).flatten :: H) w := by refine sb_from ?_ hs; repeat constructor
            have h7 := cmb_set (i := k) (a := at_) h6
            refine sb_from ?_ h7; repeat constructor⟩
          case measure => simp [intOf]; omega
        · obtain ⟨y, hy⟩ : ∃ y, ps[k + 1]? = some y := ⟨_, List.getElem?_eq_getElem (by omega)⟩
          have hcy : (ps.map (·.c))[k + 1]? = some y.c := by rw [List.getElem?_map, hy]; rfl
          have HY := Lib.hid (rws_get hy)
          obtain ⟨⟨ry, cby, wy, aty⟩, ya, yp⟩ := y
          simp only at hcy HY
          by_cases k2 : wy = 2
          · subst k2
            have qah : ¬ ((k : Int) + 1) = (n : Int) := kn
            have qi : (k : Int) + 1 < (n : Int) := by omega
            have qj : (0 : Int) ≤ (k : Int) + 1 := by omega
            have qa1 : (((k : Int) + 1) == (n : Int)) = false := beq_eq_false_iff_ne.2 qah
            have qa2 : decide (((k : Int) + 1) = (n : Int)) = false := decide_eq_false qah
            have qa3 : (((k : Int) + 1) != (n : Int)) = true := bne_iff_ne.2 qah
            clear qah kn
            have HNN := Lib.hid hcy
            clear hcy hy
            have HM2 : Hid (MD l (k + 1) (ps.map (·.c))) := Lib.hid ((md_step HM.out hcx).2 (by rw [HNN.out]; simp))
            clear hcx hx
            go_wp2_with (first | (((with_reducible apply ldof hs.b2); exact rfl; exact rfl; exact rfl; (exact HY.out); exact rws6 _; exact rfl; exact one5)) | (((with_reducible apply ldor hs.b1); exact rfl; exact rfl; exact rfl; exact HX.out; exact rws6 _; exact row41)) | ((with_reducible refine isl ?_); first | ((with_reducible refine wrap hs ?_); clear hs; generalize wr.heap.size = z4; intro w hs) | ((with_reducible apply stswx); exact rfl; exact rfl; exact rfl; (exact hs.b0); exact rfl; exact row41; exact rfl; exact rfl; exact rfl; clear hs; intro w hs) | ((with_reducible apply ldx); exact rfl; exact rfl; exact rfl; (first | exact hs.b0 | exact hs.b1); exact rfl; kernel_rfl)))
            go_roundw
            case rel => exact ⟨k + 1, ps, by omega, by go_num, HP, HM2, by (refine sb_from ?_ hs; repeat constructor)⟩
            case measure => simp [intOf]; omega
          · skip
            have qah : ¬ ((k : Int) + 1) = (n : Int) := kn
            have qi : (k : Int) + 1 < (n : Int) := by omega
            have qj : (0 : Int) ≤ (k : Int) + 1 := by omega
            have qa1 : (((k : Int) + 1) == (n : Int)) = false := beq_eq_false_iff_ne.2 qah
            have qa2 : decide (((k : Int) + 1) = (n : Int)) = false := decide_eq_false qah
            have qa3 : (((k : Int) + 1) != (n : Int)) = true := bne_iff_ne.2 qah
            have qbh : ¬ wy = 2 := k2
            have qb1 : (wy == 2) = false := beq_eq_false_iff_ne.2 qbh
            have qb2 : decide (wy = 2) = false := decide_eq_false qbh
            have qb3 : (wy != 2) = true := bne_iff_ne.2 qbh
            clear qah kn qbh
            have HNN := Lib.hid hcy
            have HK2 := Lib.hid k2
            clear hcy hy k2
            have HS : Hid ((rws ps).set k (cV (bC at_) (.slice none 0 0)) = rws (ps.set k (PC.bl at_))) := Lib.hid (rws_set ps k (PC.bl at_))
            have HL : Hid (k < (rws ps).length) := Lib.hid (by rw [rws_len]; omega)
            have HM2 : Hid (MD l (k + 1) (ps.set k (PC.bl at_) |>.map (·.c))) := Lib.hid (by rw [List.map_set]; exact (md_step HM.out hcx).1 (.inl ⟨rfl, by rw [HNN.out]; simpa using HK2.out⟩))
            clear hcx hx
            go_wp2_with (first | (((with_reducible apply ldof hs.b2); exact rfl; exact rfl; exact rfl; (exact HY.out); exact rws6 _; exact rfl; exact one5)) | (((with_reducible apply ldor hs.b1); exact rfl; exact rfl; exact rfl; exact HX.out; exact rws6 _; exact row41)) | ((with_reducible refine isl ?_); first | ((with_reducible refine wrap hs ?_); clear hs; generalize wr.heap.size = z4; intro w hs) | ((with_reducible apply stswx); exact rfl; exact rfl; exact rfl; (exact hs.b0); exact rfl; exact row41; exact rfl; exact rfl; exact rfl; clear hs; intro w hs) | ((with_reducible apply ldx); exact rfl; exact rfl; exact rfl; (first | exact hs.b0 | exact hs.b1); exact rfl; kernel_rfl)))
            refine region_mix [([0, 1, 2, 3, 4, 5, 6], [7]), ([8], [9])] [] hs (fun _ h => by (show sat W [cel b 96 [.slice (some ⟨g, 0, none⟩) n p], cel z4 110 (cV ⟨r, cb, 1, at_⟩ (.slice xa cb.length xp))] _; refine sb_from ?_ h; repeat constructor)) (by kernel_rfl) (by kernel_rfl) (fun _ _ _ _ _ h => h) ?_
            simp only [segs, nths, nth, List.append_nil, List.nil_append, List.cons_append, List.map_cons, List.map_nil]
            refine seg_reads (fun _ h => by (show sat W [cel b 96 [.slice (some ⟨g, 0, none⟩) n p], cel z4 110 (cV ⟨r, cb, 1, at_⟩ (.slice xa cb.length xp))] _; refine sb_from ?_ h; repeat constructor)) ?_; intro X f hne hf hcl; (try simp only [Act.put, List.setIfInBounds_toArray, List.set_cons_succ, List.set_cons_zero]); (repeat ((first | ((with_reducible apply ldsqx 3); exact rfl; exact rfl; exact rfl; (first | exact fun x => (hf x).b0 | exact fun x => (hf x).b1); exact row33; exact rfl; exact rfl) | ((with_reducible apply ldqx); exact rfl; exact rfl; exact rfl; (exact fun x => (hf x).b0); exact rfl; kernel_rfl) | go_big_quiet_step (fail)); (try simp only [Act.put, List.setIfInBounds_toArray, List.set_cons_succ, List.set_cons_zero]))); refine wpQuiet_nil ?_; clear hcl hf hne hs f X; intro w hs
            go_wp2_with ((go_at_call 67; refine (blank30 (a := at_) hs).mono ?_; clear hs; rintro e w ⟨rfl, hs⟩))
            (refine seg_on hs (fun _ h => h) ?_ ?_)
            · exact fun _ h => by (show sat W [cel b 96 [.slice (some ⟨g, 0, none⟩) n p], cel z4 110 (cV ⟨r, cb, 1, at_⟩ (.slice xa cb.length xp))] _; refine sb_from ?_ h; repeat constructor)
            clear hs; intro hs
            refine seg_reads (fun _ h => by (show sat W [cel b 96 [.slice (some ⟨g, 0, none⟩) n p], cel z4 110 (cV ⟨r, cb, 1, at_⟩ (.slice xa cb.length xp))] _; refine sb_from ?_ h; repeat constructor)) ?_; intro X f hne hf hcl; (try simp only [Act.put, List.setIfInBounds_toArray, List.set_cons_succ, List.set_cons_zero]); (repeat ((go_big_quiet_step (fail)); (try simp only [Act.put, List.setIfInBounds_toArray, List.set_cons_succ, List.set_cons_zero]))); refine wpQuiet_nil ?_; clear hcl hf hne hs f X; intro w hs
            go_wp2_with ((((with_reducible apply stor hs.b2); exact rfl; exact rfl; exact rfl; exact rfl; exact HL.out; exact rws6 _; exact row41; exact rfl; exact rfl; exact rfl; clear hs; intro w hs; rw [HS.out] at hs)))
            (refine seg_on hs (fun _ h => h) ?_ ?_)
            · exact fun _ h => by (show sat W [cel b 96 [.slice (some ⟨g, 0, none⟩) n p], cel z4 110 (cV ⟨r, cb, 1, at_⟩ (.slice xa cb.length xp))] _; refine sb_from ?_ h; repeat constructor)
            clear hs; intro hs
            refine seg_last (fun _ h => by (show sat W [cel b 96 [.slice (some ⟨g, 0, none⟩) n p], cel z4 110 (cV ⟨r, cb, 1, at_⟩ (.slice xa cb.length xp))] _; refine sb_from ?_ h; repeat constructor)) ?_; intro X f hne hf hcl; (try simp only [Act.put, List.setIfInBounds_toArray, List.set_cons_succ, List.set_cons_zero]); (repeat ((fail); (try simp only [Act.put, List.setIfInBounds_toArray, List.set_cons_succ, List.set_cons_zero]))); refine wpQuiet_nil ?_; clear hcl hf hne hs f X; intro w hs
            go_wp2_with fail
            go_roundw
            case rel => exact ⟨k + 1, ps.set k (PC.bl at_), by omega, by go_num, Lib.hid (by rw [List.length_set]; exact HP.out), HM2, by
              have h6 : sat W (cmb ps :: cel b 96 [.slice (some ⟨g, 0, none⟩) n p] :: own 110 6 (.slice (some ⟨g, 0, none⟩) n p) n (rws (ps.set k (PC.bl at_))).flatten :: H) w := by refine sb_from ?_ hs; repeat constructor
              have h7 := cmb_set (i := k) (a := at_) h6
              refine sb_from ?_ h7; repeat constructor⟩
            case measure => simp [intOf]; omega
      · by_cases k2 : wd = 2
        · subst k2
          by_cases kz : k = 0
          · skip
            have qzh : (k : Int) = 0 := by omega
            have qz1 : ((k : Int) == 0) = true := by rw [beq_iff_eq]; exact qzh
            have qz2 : decide ((k : Int) = 0) = true := decide_eq_true qzh
            have qz3 : ((k : Int) != 0) = false := by rw [bne_eq_false_iff_eq]; exact qzh
            have HKZ := Lib.hid kz
            clear qzh k1 kz
            have HS : Hid ((rws ps).set k (cV (bC at_) (.slice none 0 0)) = rws (ps.set k (PC.bl at_))) := Lib.hid (rws_set ps k (PC.bl at_))
            have HL : Hid (k < (rws ps).length) := Lib.hid (by rw [rws_len]; omega)
            have HM2 : Hid (MD l (k + 1) (ps.set k (PC.bl at_) |>.map (·.c))) := Lib.hid (by rw [List.map_set]; exact (md_step HM.out hcx).1 (.inr ⟨rfl, by rw [HKZ.out]; simp [pv]⟩))
            clear hcx hx
            go_wp2_with (first | (((with_reducible apply ldor hs.b1); exact rfl; exact rfl; exact rfl; exact HX.out; exact rws6 _; exact row41)) | ((with_reducible refine isl ?_); first | ((with_reducible refine wrap hs ?_); clear hs; generalize wr.heap.size = z4; intro w hs) | ((with_reducible apply stswx); exact rfl; exact rfl; exact rfl; (exact hs.b0); exact rfl; exact row41; exact rfl; exact rfl; exact rfl; clear hs; intro w hs) | ((with_reducible apply ldx); exact rfl; exact rfl; exact rfl; (exact hs.b0); exact rfl; kernel_rfl)))
            refine region_mix [([0, 1, 2, 3, 4, 5, 6], [7]), ([8], [9])] [] hs (fun _ h => by (show sat W [cel b 96 [.slice (some ⟨g, 0, none⟩) n p], cel z4 110 (cV ⟨r, cb, 2, at_⟩ (.slice xa cb.length xp))] _; refine sb_from ?_ h; repeat constructor)) (by kernel_rfl) (by kernel_rfl) (fun _ _ _ _ _ h => h) ?_
            simp only [segs, nths, nth, List.append_nil, List.nil_append, List.cons_append, List.map_cons, List.map_nil]
            refine seg_reads (fun _ h => by (show sat W [cel b 96 [.slice (some ⟨g, 0, none⟩) n p], cel z4 110 (cV ⟨r, cb, 2, at_⟩ (.slice xa cb.length xp))] _; refine sb_from ?_ h; repeat constructor)) ?_; intro X f hne hf hcl; (try simp only [Act.put, List.setIfInBounds_toArray, List.set_cons_succ, List.set_cons_zero]); (repeat ((first | ((with_reducible apply ldsqx 3); exact rfl; exact rfl; exact rfl; (first | exact fun x => (hf x).b0 | exact fun x => (hf x).b1); exact row33; exact rfl; exact rfl) | ((with_reducible apply ldqx); exact rfl; exact rfl; exact rfl; (exact fun x => (hf x).b0); exact rfl; kernel_rfl) | go_big_quiet_step (fail)); (try simp only [Act.put, List.setIfInBounds_toArray, List.set_cons_succ, List.set_cons_zero]))); refine wpQuiet_nil ?_; clear hcl hf hne hs f X; intro w hs
            go_wp2_with ((go_at_call 67; refine (blank30 (a := at_) hs).mono ?_; clear hs; rintro e w ⟨rfl, hs⟩))
            (refine seg_on hs (fun _ h => h) ?_ ?_)
            · exact fun _ h => by (show sat W [cel b 96 [.slice (some ⟨g, 0, none⟩) n p], cel z4 110 (cV ⟨r, cb, 2, at_⟩ (.slice xa cb.length xp))] _; refine sb_from ?_ h; repeat constructor)
            clear hs; intro hs
            refine seg_reads (fun _ h => by (show sat W [cel b 96 [.slice (some ⟨g, 0, none⟩) n p], cel z4 110 (cV ⟨r, cb, 2, at_⟩ (.slice xa cb.length xp))] _; refine sb_from ?_ h; repeat constructor)) ?_; intro X f hne hf hcl; (try simp only [Act.put, List.setIfInBounds_toArray, List.set_cons_succ, List.set_cons_zero]); (repeat ((go_big_quiet_step (fail)); (try simp only [Act.put, List.setIfInBounds_toArray, List.set_cons_succ, List.set_cons_zero]))); refine wpQuiet_nil ?_; clear hcl hf hne hs f X; intro w hs
            go_wp2_with ((((with_reducible apply stor hs.b2); exact rfl; exact rfl; exact rfl; exact rfl; exact HL.out; exact rws6 _; exact row41; exact rfl; exact rfl; exact rfl; clear hs; intro w hs; rw [HS.out] at hs)))
            (refine seg_on hs (fun _ h => h) ?_ ?_)
            · exact fun _ h => by (show sat W [cel b 96 [.slice (some ⟨g, 0, none⟩) n p], cel z4 110 (cV ⟨r, cb, 2, at_⟩ (.slice xa cb.length xp))] _; refine sb_from ?_ h; repeat constructor)
            clear hs; intro hs
            refine seg_last (fun _ h => by (show sat W [cel b 96 [.slice (some ⟨g, 0, none⟩) n p], cel z4 110 (cV ⟨r, cb, 2, at_⟩ (.slice xa cb.length xp))] _; refine sb_from ?_ h; repeat constructor)) ?_; intro X f hne hf hcl; (try simp only [Act.put, List.setIfInBounds_toArray, List.set_cons_succ, List.set_cons_zero]); (repeat ((fail); (try simp only [Act.put, List.setIfInBounds_toArray, List.set_cons_succ, List.set_cons_zero]))); refine wpQuiet_nil ?_; clear hcl hf hne hs f X; intro w hs
            go_wp2_with fail
            go_roundw
            case rel => exact ⟨k + 1, ps.set k (PC.bl at_), by omega, by go_num, Lib.hid (by rw [List.length_set]; exact HP.out), HM2, by
              have h6 : sat W (cmb ps :: cel b 96 [.slice (some ⟨g, 0, none⟩) n p] :: own 110 6 (.slice (some ⟨g, 0, none⟩) n p) n (rws (ps.set k (PC.bl at_))).flatten :: H) w := by refine sb_from ?_ hs; repeat constructor
              have h7 := cmb_set (i := k) (a := at_) h6
              refine sb_from ?_ h7; repeat constructor⟩
            case measure => simp [intOf]; omega
          · obtain ⟨z, hz⟩ : ∃ z, ps[k - 1]? = some z := ⟨_, List.getElem?_eq_getElem (by omega)⟩
            have hcz : pv (ps.map (·.c)) k = z.c.w := by
              obtain ⟨k', rfl⟩ : ∃ k', k = k' + 1 := ⟨k - 1, by omega⟩
              rw [Nat.add_sub_cancel] at hz
              rw [pv_succ, List.getElem?_map, hz]; rfl
            have HZ := Lib.hid (rws_get hz)
            obtain ⟨⟨rz, cbz, wz, atz⟩, za, zp⟩ := z
            simp only at hcz HZ
            have hsub : ((k : Int) - 1) = ((k - 1 : Nat) : Int) := by omega
            by_cases k3 : wz = 1
            · subst k3
              have qzh : ¬ (k : Int) = 0 := by omega
              have qz1 : ((k : Int) == 0) = false := beq_eq_false_iff_ne.2 qzh
              have qz2 : decide ((k : Int) = 0) = false := decide_eq_false qzh
              have qz3 : ((k : Int) != 0) = true := bne_iff_ne.2 qzh
              have HCZ := Lib.hid hcz
              clear hcz hz qzh k1
              have HM2 : Hid (MD l (k + 1) (ps.map (·.c))) := Lib.hid ((md_step HM.out hcx).2 (by rw [HCZ.out]; simp))
              clear hcx hx
              go_wp2_with (first | (((with_reducible apply ldof hs.b2); exact rfl; exact rfl; exact rfl; (exact HZ.out); exact rws6 _; exact rfl; exact one5)) | (((with_reducible apply ldor hs.b1); exact rfl; exact rfl; exact rfl; exact HX.out; exact rws6 _; exact row41)) | ((with_reducible refine isl ?_); first | ((with_reducible refine wrap hs ?_); clear hs; generalize wr.heap.size = z4; intro w hs) | ((with_reducible apply stswx); exact rfl; exact rfl; exact rfl; (exact hs.b0); exact rfl; exact row41; exact rfl; exact rfl; exact rfl; clear hs; intro w hs) | ((with_reducible apply ldx); exact rfl; exact rfl; exact rfl; (first | exact hs.b0 | exact hs.b1); exact rfl; kernel_rfl)))
              go_roundw
              case rel => exact ⟨k + 1, ps, by omega, by go_num, HP, HM2, by (refine sb_from ?_ hs; repeat constructor)⟩
              case measure => simp [intOf]; omega
            · skip
              have qzh : ¬ (k : Int) = 0 := by omega
              have qz1 : ((k : Int) == 0) = false := beq_eq_false_iff_ne.2 qzh
              have qz2 : decide ((k : Int) = 0) = false := decide_eq_false qzh
              have qz3 : ((k : Int) != 0) = true := bne_iff_ne.2 qzh
              have qbh : ¬ wz = 1 := k3
              have qb1 : (wz == 1) = false := beq_eq_false_iff_ne.2 qbh
              have qb2 : decide (wz = 1) = false := decide_eq_false qbh
              have qb3 : (wz != 1) = true := bne_iff_ne.2 qbh
              have HCZ := Lib.hid hcz
              have HK3 := Lib.hid k3
              clear hcz hz qzh qbh k1 k3
              have HS : Hid ((rws ps).set k (cV (bC at_) (.slice none 0 0)) = rws (ps.set k (PC.bl at_))) := Lib.hid (rws_set ps k (PC.bl at_))
              have HL : Hid (k < (rws ps).length) := Lib.hid (by rw [rws_len]; omega)
              have HM2 : Hid (MD l (k + 1) (ps.set k (PC.bl at_) |>.map (·.c))) := Lib.hid (by rw [List.map_set]; exact (md_step HM.out hcx).1 (.inr ⟨rfl, by rw [HCZ.out]; exact HK3.out⟩))
              clear hcx hx
              go_wp2_with (first | (((with_reducible apply ldof hs.b2); exact rfl; exact rfl; exact rfl; (exact HZ.out); exact rws6 _; exact rfl; exact one5)) | (((with_reducible apply ldor hs.b1); exact rfl; exact rfl; exact rfl; exact HX.out; exact rws6 _; exact row41)) | ((with_reducible refine isl ?_); first | ((with_reducible refine wrap hs ?_); clear hs; generalize wr.heap.size = z4; intro w hs) | ((with_reducible apply stswx); exact rfl; exact rfl; exact rfl; (exact hs.b0); exact rfl; exact row41; exact rfl; exact rfl; exact rfl; clear hs; intro w hs) | ((with_reducible apply ldx); exact rfl; exact rfl; exact rfl; (first | exact hs.b0 | exact hs.b1); exact rfl; kernel_rfl)))
              refine region_mix [([0, 1, 2, 3, 4, 5, 6], [7]), ([8], [9])] [] hs (fun _ h => by (show sat W [cel b 96 [.slice (some ⟨g, 0, none⟩) n p], cel z4 110 (cV ⟨r, cb, 2, at_⟩ (.slice xa cb.length xp))] _; refine sb_from ?_ h; repeat constructor)) (by kernel_rfl) (by kernel_rfl) (fun _ _ _ _ _ h => h) ?_
              simp only [segs, nths, nth, List.append_nil, List.nil_append, List.cons_append, List.map_cons, List.map_nil]
              refine seg_reads (fun _ h => by (show sat W [cel b 96 [.slice (some ⟨g, 0, none⟩) n p], cel z4 110 (cV ⟨r, cb, 2, at_⟩ (.slice xa cb.length xp))] _; refine sb_from ?_ h; repeat constructor)) ?_; intro X f hne hf hcl; (try simp only [Act.put, List.setIfInBounds_toArray, List.set_cons_succ, List.set_cons_zero]); (repeat ((first | ((with_reducible apply ldsqx 3); exact rfl; exact rfl; exact rfl; (first | exact fun x => (hf x).b0 | exact fun x => (hf x).b1); exact row33; exact rfl; exact rfl) | ((with_reducible apply ldqx); exact rfl; exact rfl; exact rfl; (exact fun x => (hf x).b0); exact rfl; kernel_rfl) | go_big_quiet_step (fail)); (try simp only [Act.put, List.setIfInBounds_toArray, List.set_cons_succ, List.set_cons_zero]))); refine wpQuiet_nil ?_; clear hcl hf hne hs f X; intro w hs
              go_wp2_with ((go_at_call 67; refine (blank30 (a := at_) hs).mono ?_; clear hs; rintro e w ⟨rfl, hs⟩))
              (refine seg_on hs (fun _ h => h) ?_ ?_)
              · exact fun _ h => by (show sat W [cel b 96 [.slice (some ⟨g, 0, none⟩) n p], cel z4 110 (cV ⟨r, cb, 2, at_⟩ (.slice xa cb.length xp))] _; refine sb_from ?_ h; repeat constructor)
              clear hs; intro hs
              refine seg_reads (fun _ h => by (show sat W [cel b 96 [.slice (some ⟨g, 0, none⟩) n p], cel z4 110 (cV ⟨r, cb, 2, at_⟩ (.slice xa cb.length xp))] _; refine sb_from ?_ h; repeat constructor)) ?_; intro X f hne hf hcl; (try simp only [Act.put, List.setIfInBounds_toArray, List.set_cons_succ, List.set_cons_zero]); (repeat ((go_big_quiet_step (fail)); (try simp only [Act.put, List.setIfInBounds_toArray, List.set_cons_succ, List.set_cons_zero]))); refine wpQuiet_nil ?_; clear hcl hf hne hs f X; intro w hs
              go_wp2_with ((((with_reducible apply stor hs.b2); exact rfl; exact rfl; exact rfl; exact rfl; exact HL.out; exact rws6 _; exact row41; exact rfl; exact rfl; exact rfl; clear hs; intro w hs; rw [HS.out] at hs)))
              (refine seg_on hs (fun _ h => h) ?_ ?_)
              · exact fun _ h => by (show sat W [cel b 96 [.slice (some ⟨g, 0, none⟩) n p], cel z4 110 (cV ⟨r, cb, 2, at_⟩ (.slice xa cb.length xp))] _; refine sb_from ?_ h; repeat constructor)
              clear hs; intro hs
              refine seg_last (fun _ h => by (show sat W [cel b 96 [.slice (some ⟨g, 0, none⟩) n p], cel z4 110 (cV ⟨r, cb, 2, at_⟩ (.slice xa cb.length xp))] _; refine sb_from ?_ h; repeat constructor)) ?_; intro X f hne hf hcl; (try simp only [Act.put, List.setIfInBounds_toArray, List.set_cons_succ, List.set_cons_zero]); (repeat ((fail); (try simp only [Act.put, List.setIfInBounds_toArray, List.set_cons_succ, List.set_cons_zero]))); refine wpQuiet_nil ?_; clear hcl hf hne hs f X; intro w hs
              go_wp2_with fail
              go_roundw
              case rel => exact ⟨k + 1, ps.set k (PC.bl at_), by omega, by go_num, Lib.hid (by rw [List.length_set]; exact HP.out), HM2, by
                have h6 : sat W (cmb ps :: cel b 96 [.slice (some ⟨g, 0, none⟩) n p] :: own 110 6 (.slice (some ⟨g, 0, none⟩) n p) n (rws (ps.set k (PC.bl at_))).flatten :: H) w := by refine sb_from ?_ hs; repeat constructor
                have h7 := cmb_set (i := k) (a := at_) h6
                refine sb_from ?_ h7; repeat constructor⟩
              case measure => simp [intOf]; omega
        · skip
          have qah : ¬ wd = 1 := k1
          have qbh : ¬ wd = 2 := k2
          have qa1 : (wd == 1) = false := beq_eq_false_iff_ne.2 qah
          have qa2 : decide (wd = 1) = false := decide_eq_false qah
          have qa3 : (wd != 1) = true := bne_iff_ne.2 qah
          have qb1 : (wd == 2) = false := beq_eq_false_iff_ne.2 qbh
          have qb2 : decide (wd = 2) = false := decide_eq_false qbh
          have qb3 : (wd != 2) = true := bne_iff_ne.2 qbh
          have HK : Hid (¬ wd = 1 ∧ ¬ wd = 2) := Lib.hid ⟨k1, k2⟩
          clear qah qbh k1 k2
          have HM2 : Hid (MD l (k + 1) (ps.map (·.c))) := Lib.hid ((md_step HM.out hcx).2 (by have := HK.out; simp only; omega))
          clear hcx hx
          go_wp2_with (first | (((with_reducible apply ldor hs.b1); exact rfl; exact rfl; exact rfl; exact HX.out; exact rws6 _; exact row41)) | ((with_reducible refine isl ?_); first | ((with_reducible refine wrap hs ?_); clear hs; generalize wr.heap.size = z4; intro w hs) | ((with_reducible apply stswx); exact rfl; exact rfl; exact rfl; (exact hs.b0); exact rfl; exact row41; exact rfl; exact rfl; exact rfl; clear hs; intro w hs) | ((with_reducible apply ldx); exact rfl; exact rfl; exact rfl; (exact hs.b0); exact rfl; kernel_rfl)))
          go_roundw
          case rel => exact ⟨k + 1, ps, by omega, by go_num, HP, HM2, by (refine sb_from ?_ hs; repeat constructor)⟩
          case measure => simp [intOf]; omega
    · have hge : ¬ (k : Int) < (n : Int) := by omega
      have HE : Hid (md 0 l = ps.map (·.c)) := Lib.hid (md_end HM.out (by rw [List.length_map, HP.out]; omega))
      clear hkn
      go_wp2_with fail
      refine end_end0 rfl rfl ?_
      exact ⟨rfl, by rw [HE.out]; exact rw_close HP.out hs⟩
end Go.Proofs.Ytdcagaaanbgcoaa
