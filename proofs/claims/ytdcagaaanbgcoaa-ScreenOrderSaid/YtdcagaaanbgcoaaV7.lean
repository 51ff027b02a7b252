/- Law 6: New, Cells, Cell, Copy. -/
import Derived.Test.YtdcagaaanbgcoaaSf
import Derived.Test.YtdcagaaanbgcoaaV4
import Derived.Laws.BitsAllLaws
namespace Go.Proofs.Ytdcagaaanbgcoaa
open Go.RowKit Go.Mem Go.Cells
variable {W w : World} {H : List HProp}
def PC.zero : PC := ⟨⟨0, [], 0, At.z⟩, none, 0⟩
theorem cmb_zeros {l : List PC} : ∀ (n : Nat), sat W (cmb l :: H) w → sat W (cmb (List.replicate n PC.zero ++ l) :: H) w
  | 0, hs => hs
  | n + 1, hs => by rw [List.replicate_succ]; exact cmb_mk ((cmb_zeros n hs).own_nil 21 1)
theorem zero41 : (Try.prog.info? 110).map (·.zero) = some (some (.agg #[.int .i32 0, .slice none 0 0, .int .u8 0, .int .u32 0, .int .u32 0, .int .u16 0])) := by kernel_rfl
theorem size41 : (Try.prog.info? 110).map (·.size) = some 6 := by kernel_rfl
theorem set_app_cons2 {α : Type} (A : List α) (c x : α) (B : List α) : (A ++ c :: B).set A.length x = A ++ x :: B := by simp
theorem rws_zeros (n : Nat) : (List.replicate n (Value.agg #[.int .i32 0, .slice none 0 0, .int .u8 0, .int .u32 0, .int .u32 0, .int .u16 0]).cells.toList) = rws (List.replicate n PC.zero) := by unfold rws; rw [List.map_replicate]; rfl
theorem rws_row1 {ps : List PC} : ∀ r ∈ rws ps, ∀ u ∈ r, u.oneCell' = true := fun r hr u hu => flat_one (ps := ps) u (List.mem_flatten.2 ⟨r, hr, hu⟩)
theorem rws_take (ps : List PC) (k : Nat) : (rws ps).take k = rws (ps.take k) := List.map_take.symm
theorem rws_drop (ps : List PC) (k : Nat) : (rws ps).drop k = rws (ps.drop k) := List.map_drop.symm
theorem copied39_at {ps : List PC} {i : Nat} {x : PC} (h4 : x.c.comb.length ≤ 4) (hx : ps[i]? = some x) (hs : sat W (cmb ps :: H) w) : Calls Try.prog 79 #[cA x.c (pcS x)] w fun e w' => ∃ y : PC, e = .returned (cA y.c (pcS y)) ∧ y.c = x.c ∧ sat W (cmb1 y :: cmb ps :: H) w' :=
  (copied39 h4 (cmb_at hx hs)).mono fun e w' ⟨y, he, hy, h⟩ => ⟨y, by rw [he, ← hy], hy, by
    have h1 := cmb_put (l := ps) (i := i) (y := x) (List.getElem?_eq_some_iff.1 hx).1 (H := cmb1 y :: H) (by refine sb_from ?_ h; repeat constructor)
    have e : ps.set i x = ps := by
      have h2 := (List.getElem?_eq_some_iff.1 hx).2
      rw [← h2]
      exact List.set_getElem_self _
    rw [e] at h1
    exact h1.b1⟩
theorem own53_at {ps : List PC} {i : Nat} {x : PC} (h4 : x.c.comb.length ≤ 4) (hx : ps[i]? = some x) (hs : sat W (cmb ps :: H) w) : Calls Try.prog 94 #[cA x.c (pcS x)] w fun e w' => ∃ y : PC, e = .returned (cA y.c (pcS y)) ∧ y.c = x.c ∧ sat W (cmb1 y :: cmb ps :: H) w' :=
  (own53 h4 (cmb_at hx hs)).mono fun e w' ⟨y, he, hy, h⟩ => ⟨y, by rw [he, ← hy], hy, by
    have h1 := cmb_put (l := ps) (i := i) (y := x) (List.getElem?_eq_some_iff.1 hx).1 (H := cmb1 y :: H) (by refine sb_from ?_ h; repeat constructor)
    have e : ps.set i x = ps := by
      have h2 := (List.getElem?_eq_some_iff.1 hx).2
      rw [← h2]
      exact List.set_getElem_self _
    rw [e] at h1
    exact h1.b1⟩
theorem rws_nil (a : At) : (rws (List.replicate 0 (PC.bl a))).flatten = [] := rfl
theorem rws_bl_snoc (n : Nat) (a : At) : (rws (List.replicate n (PC.bl a))).flatten ++ cV (bC a) (.slice none 0 0) = (rws (List.replicate (n + 1) (PC.bl a))).flatten := by
  rw [List.replicate_succ', rws_app, List.flatten_append]
  rfl
theorem results_ct {P : Program} {fn : Func} {tmps : Array Value} {b : Nat} {T ty : TypeId} {l : List Value} {t t2 : Tmp} (hs : sat W (cel b T l :: H) w)
    (hr : fn.results = #[.cell t ty, .tmp t2]) (hx : tmps.getD t undef = .pointer (some ⟨b, 0, none⟩)) (ht : rowTy P ty l.length = true) : (results fn tmps).run P w = .ok (.tuple #[.agg l.toArray, tmps.getD t2 undef]) w := by
  have hx' : tmps[t]?.getD undef = .pointer (some ⟨b, 0, none⟩) := by rw [← Array.getD_eq_getD_getElem?]; exact hx
  obtain ⟨d, h1, h2, h3⟩ := rowTy_parts ht
  have hl := run_loadVar_mid (P := P) w b 0 ty l d (hs.cel_range (i := 0) (n := l.length) (by simp)) h1 h2 h3
  unfold results
  simp [hr, hx', hl, asAddr]
attribute [local irreducible] rowTy oneTy World.setCell World.setCells World.alloc World.drew World.drewN Calls sat cel own blk old wpQuiet wpList cmb cmb1 rwP cls rws
theorem mul59 {n : Nat} (h1 : n ≤ 1000) (hs : sat W H w) : Calls Try.prog 97 #[.int .u64 1, .int .u64 (n : Int)] w fun e w' => e = .returned (.tuple #[.int .u64 0, .int .u64 n]) ∧ sat W H w' := by
  have hb : bits .and .u64 (n : Int) 4294967295 = n := by
    rw [show (4294967295 : Int) = ((4294967295 : Nat) : Int) from rfl, u64_and_nat n 4294967295 (by omega) (by decide), show (4294967295 : Nat) = 2 ^ 32 - 1 from rfl, Nat.and_two_pow_sub_one_eq_mod, Nat.mod_eq_of_lt (by omega)]
  have hb1 : bits .and .u64 1 4294967295 = 1 := by decide
  have hb0 : bits .and .u64 0 4294967295 = 0 := by decide
  have hd : (n : Int) / 4294967296 = 0 := Int.ediv_eq_zero_of_lt (by omega) (by omega)
  have hw : IntKind.u64.wrap (n : Int) = n := by unfold IntKind.wrap; simp [IntKind.signed, IntKind.bits]; omega
  have hw0 : IntKind.u64.wrap 0 = 0 := by decide
  go_enter Try.func97, Try.ntmps97
  go_wp2_with fail
  refine end_ret rfl (results_tmp2 rfl _ _ _) ⟨?_, hs⟩
  simp [hb, hb1, hb0, hd, hw, hw0]
theorem mul51 {n : Nat} (h1 : n ≤ 1000) (hs : sat W H w) : Calls Try.prog 95 #[.int .u64 1, .int .u64 (n : Int)] w fun e w' => e = .returned (.tuple #[.int .u64 0, .int .u64 n]) ∧ sat W H w' := by
  go_enter Try.func95, Try.ntmps95
  go_wp2_with ((go_at_call 97; refine (mul59 h1 hs).mono ?_; clear hs; rintro e w ⟨rfl, hs⟩))
  refine end_ret rfl (results_tmp2 rfl _ _ _) ⟨rfl, hs⟩
/-- Cells told. -/
theorem cells11 {b n : Nat} {l : List C} (hn : l.length = n) (h0 : 0 < n) (h512 : n ≤ 1000) (h4 : ∀ c ∈ l, c.comb.length ≤ 4) (hs : sat W (rwP 96 b l :: H) w) : Calls Try.prog 62 #[.pointer (some ⟨b, 0, none⟩)] w fun e w' => ∃ a p, e = .returned (.slice a n p) ∧ sat W (cls (.slice a n p) l :: rwP 96 b l :: H) w' := by
  have HN0 := Lib.hid hn
  have H4 := Lib.hid h4
  clear hn h4
  go_enter Try.func62, Try.ntmps62
  go_wp2_with (first | (go_at_call 30; refine (len27 HN0.out h0 hs).mono ?_; clear hs; rintro e w ⟨rfl, hs⟩) | ((with_reducible refine isl ?_); first | ((with_reducible apply mkr hs); exact rfl; exact rfl; exact rfl; exact rfl; exact slty37; exact zero41; exact rfl; omega; (unfold maxLen; omega); clear hs; intro g w hs)))
  go_loopw [10] (fun i wr => ∃ (k : Nat) (ys : List PC), k ≤ n ∧ i = .int .i64 (k : Int) ∧ Hid (ys.length = k ∧ ys.map (·.c) = l.take k) ∧ sat W (own 110 6 (.slice (some ⟨g, 0, none⟩) n n) n (rws (ys ++ List.replicate (n - k) PC.zero)).flatten :: cmb ys :: rwP 96 b l :: H) wr) (fun i _ => ((n : Int) - intOf i).toNat)
  case atStart => exact ⟨0, [], Nat.zero_le _, rfl, Lib.hid ⟨rfl, rfl⟩, by
    have h1 := cmb_nil hs
    rw [rws_zeros] at h1
    refine sb_from ?_ h1; repeat constructor⟩
  case round =>
    clear hs
    obtain ⟨k, ys, hk, rfl, HY, hs⟩ := hrel
    by_cases hkn : k < n
    · obtain ⟨ps, a, p, hps, hs⟩ := rw_open HN0.out hs.b2
      have hpn : ps.length = n := by rw [← HN0.out, ← hps, List.length_map]
      obtain ⟨g2, rfl⟩ := own_ptr h0 hs.b1
      obtain ⟨x, hx⟩ : ∃ x, ps[k]? = some x := ⟨_, List.getElem?_eq_getElem (by omega)⟩
      have hlx : l[k]? = some x.c := by rw [← hps, List.getElem?_map, hx]; rfl
      have HX := Lib.hid (rws_get hx)
      have HX2 := Lib.hid hx
      have HXL := Lib.hid hlx
      have h4x : x.c.comb.length ≤ 4 := H4.out x.c (List.mem_of_getElem? hlx)
      have HP := Lib.hid (And.intro hpn hps)
      have HL : Hid (k < (rws (ys ++ List.replicate (n - k) PC.zero)).length) := Lib.hid (by rw [rws_len, List.length_append, HY.out.1, List.length_replicate]; omega)
      have HS : Hid (∀ y : PC, (rws (ys ++ List.replicate (n - k) PC.zero)).set k (pcV y) = rws ((ys ++ [y]) ++ List.replicate (n - (k + 1)) PC.zero)) := Lib.hid fun y => by
        rw [rws_set, show n - k = n - (k + 1) + 1 from by omega, List.replicate_succ, ← HY.out.1, set_app_cons2, List.append_assoc]
        rfl
      clear hx hps hpn hlx
      go_wp2_with (first | (((with_reducible apply ldor hs.b1); exact rfl; exact rfl; exact rfl; exact HX.out; exact rws6 _; exact row41)) | (go_at_call 79; refine (copied39_at h4x HX2.out (by apply sk_from (hs := hs); repeat constructor)).mono ?_; clear hs; rintro e w ⟨y, rfl, hyc, hs⟩; replace hyc := Lib.hid hyc) | (((with_reducible apply stor hs.b4); exact rfl; exact rfl; exact rfl; exact rfl; exact HL.out; exact rws6 _; exact row41; exact rfl; exact rfl; exact rfl; clear hs; intro w hs; rw [HS.out] at hs)) | ((with_reducible refine isl ?_); first | ((with_reducible apply ldx); exact rfl; exact rfl; exact rfl; (exact hs.b0); exact rfl; kernel_rfl)))
      go_roundw
      case rel =>
        refine ⟨k + 1, ys ++ [y], by omega, by go_num, Lib.hid ⟨by rw [List.length_append, HY.out.1]; rfl, by rw [List.map_append, HY.out.2, List.take_add_one, HXL.out]; simp [hyc.out]⟩, ?_⟩
        have h6 : sat W (cel b 96 [.slice (some ⟨g2, 0, none⟩) n p] :: own 110 6 (.slice (some ⟨g2, 0, none⟩) n p) n (rws ps).flatten :: cmb ps :: own 110 6 (.slice (some ⟨g, 0, none⟩) n n) n (rws ((ys ++ [y]) ++ List.replicate (n - (k + 1)) PC.zero)).flatten :: cmb1 y :: cmb ys :: H) w := by refine sb_from ?_ hs; repeat constructor
        have h7 := rw_close HP.out.1 h6
        rw [HP.out.2] at h7
        have h8 : sat W (cmb ys :: cmb [y] :: rwP 96 b l :: own 110 6 (.slice (some ⟨g, 0, none⟩) n n) n (rws ((ys ++ [y]) ++ List.replicate (n - (k + 1)) PC.zero)).flatten :: H) w := by
          have h9 : sat W (cmb1 y :: cmb [] :: cmb ys :: rwP 96 b l :: own 110 6 (.slice (some ⟨g, 0, none⟩) n n) n (rws ((ys ++ [y]) ++ List.replicate (n - (k + 1)) PC.zero)).flatten :: H) w := by
            have h10 := cmb_nil h7
            refine sb_from ?_ h10; repeat constructor
          exact (cmb_mk h9).b1
        have h11 := cmb_app h8
        refine sb_from ?_ h11; repeat constructor
      case measure => simp [intOf]; omega
    · have hge : ¬ (k : Int) < (n : Int) := by omega
      have hz : n - k = 0 := by omega
      have HE : Hid (ys.length = n ∧ ys.map (·.c) = l) := Lib.hid ⟨by rw [HY.out.1]; omega, by rw [HY.out.2, List.take_of_length_le (by rw [HN0.out]; omega)]⟩
      rw [hz, List.replicate_zero, List.append_nil] at hs
      clear hkn hz
      go_wp2_with fail
      go_ret
      refine ⟨_, _, rfl, ?_⟩
      have h6 := cls_close HE.out.1 hs
      rw [HE.out.2] at h6
      exact h6
theorem repeat29 {z n p : Nat} {at_ : At} (h0 : 0 < n) (h512 : n ≤ 1000) (hs : sat W (cel z 110 (cV (bC at_) (.slice none 0 0)) :: H) w) : Calls Try.prog 89 #[.slice (some ⟨z, 0, none⟩) 1 p, .int .i64 (n : Int)] w fun e w' => ∃ g, e = .returned (.slice (some ⟨g, 0, none⟩) n n) ∧ sat W (cls (.slice (some ⟨g, 0, none⟩) n n) (List.replicate n (bC at_)) :: H) w' := by
  have hmin : Nat.min 1 n = 1 := Nat.min_eq_left h0
  have HN1 : Hid ((cV (bC at_) (.slice none 0 0)).length = Nat.min 1 n * 6) := Lib.hid (by rw [hmin]; rfl)
  have hg := hmin
  have g1 : decide ((n : Int) < 0) = false := decide_eq_false (by omega)
  have HF : Hid ((rws (List.replicate n PC.zero)).flatten.take (0 * 6) ++ cV (bC at_) (.slice none 0 0) ++ (rws (List.replicate n PC.zero)).flatten.drop (0 * 6 + (cV (bC at_) (.slice none 0 0)).length) = (rws (PC.bl at_ :: List.replicate (n - 1) PC.zero)).flatten) := Lib.hid (by
    obtain ⟨m, rfl⟩ : ∃ m, n = m + 1 := ⟨n - 1, by omega⟩
    rw [List.replicate_succ, show m + 1 - 1 = m from rfl]
    unfold rws
    simp only [List.map_cons, List.flatten_cons, Nat.zero_mul, List.take_zero, List.nil_append, Nat.zero_add]
    rw [show (cV (bC at_) (.slice none 0 0)).length = (pcV PC.zero).length from rfl, List.drop_left]
    rfl)
  go_enter Try.func89, Try.ntmps89
  go_wp2_with (first | (go_at_call 95; refine (mul51 h512 hs).mono ?_; clear hs; rintro e w ⟨rfl, hs⟩) | ((with_reducible refine isl ?_); first | ((with_reducible apply mkr hs); exact rfl; exact rfl; exact rfl; exact rfl; exact slty37; exact zero41; exact rfl; omega; (unfold maxLen; omega); clear hs; intro g w hs; rw [rws_zeros] at hs) | ((with_reducible apply cpyw (i := 0) (news := cV (bC at_) (.slice none 0 0)) hs); exact rfl; exact rfl; exact rfl; exact rfl; exact Try.underlying94; exact size41; exact HN1.out; (intro j u hu; rw [add_none, Nat.zero_add]; exact hs.b1.cel_cell hu); (intro u hu; simp only [List.mem_cons, List.not_mem_nil, or_false] at hu; rcases hu with rfl | rfl | rfl | rfl | rfl | rfl <;> rfl); (rw [hg]; omega); clear hs; intro w hs; rw [HF.out] at hs)))
  have HP0 : Hid ((PC.bl at_ :: List.replicate (n - 1) PC.zero).length = n ∧ (PC.bl at_ :: List.replicate (n - 1) PC.zero).take 1 = List.replicate 1 (PC.bl at_)) := Lib.hid ⟨by rw [List.length_cons, List.length_replicate]; omega, rfl⟩
  go_loopw [8] (fun i wr => ∃ (k : Nat) (ps : List PC), 1 ≤ k ∧ k ≤ n ∧ i = .int .i64 (k : Int) ∧ Hid (ps.length = n ∧ ps.take k = List.replicate k (PC.bl at_)) ∧ sat W (own 110 6 (.slice (some ⟨g, 0, none⟩) n n) n (rws ps).flatten :: H) wr) (fun i _ => ((n : Int) - intOf i).toNat)
  case atStart => exact ⟨1, _, Nat.le_refl _, h0, rfl, HP0, by refine sb_from ?_ hs; repeat constructor⟩
  case round =>
    clear hs
    obtain ⟨k, ps, hk1, hk, rfl, HP, hs⟩ := hrel
    by_cases hkn : k < n
    · obtain ⟨q, hq⟩ : ∃ q, Nat.min k (n - k) = q := ⟨_, rfl⟩
      have hq1 : 0 < q := by rw [← hq]; exact Nat.lt_min.2 ⟨by omega, by omega⟩
      have hq2 : q ≤ k := by rw [← hq]; exact Nat.min_le_left _ _
      have hq3 : k + q ≤ n := by have : q ≤ n - k := by rw [← hq]; exact Nat.min_le_right _ _
                                 omega
      have HQ := Lib.hid hq
      have HL : Hid ((rws ps).length = n) := Lib.hid (by rw [rws_len, HP.out.1])
      have HS : Hid ((rws ps).take k ++ ((rws ps).drop 0).take q ++ (rws ps).drop (k + q) = rws (ps.take k ++ ps.take q ++ ps.drop (k + q))) := Lib.hid (by rw [List.drop_zero, rws_take, rws_take, rws_drop, rws_app, rws_app])
      have HP2 : Hid ((ps.take k ++ ps.take q ++ ps.drop (k + q)).length = n ∧ (ps.take k ++ ps.take q ++ ps.drop (k + q)).take (k + q) = List.replicate (k + q) (PC.bl at_)) := Lib.hid (by
        have h1 := HP.out.1
        have h2 := HP.out.2
        have h3 : ps.take q = List.replicate q (PC.bl at_) := by
          have h5 : (ps.take k).take q = (List.replicate k (PC.bl at_)).take q := by rw [h2]
          rw [List.take_take, Nat.min_eq_left hq2, List.take_replicate, Nat.min_eq_left hq2] at h5
          exact h5
        refine ⟨by simp only [List.length_append, List.length_take, List.length_drop]; omega, ?_⟩
        rw [h2, h3, List.replicate_append_replicate, List.take_append_of_le_length (by rw [List.length_replicate]; exact Nat.le_refl _), List.take_of_length_le (by rw [List.length_replicate]; exact Nat.le_refl _)])
      clear hq
      go_wp2_with fail
      refine region_mix [([0, 1, 2, 3, 4, 5, 6], [7])] [8, 9] hs (fun _ h => by (show sat W [] _; refine sb_from ?_ h; repeat constructor)) (by kernel_rfl) (by kernel_rfl) (fun _ _ _ _ _ h => h) ?_
      simp only [segs, nths, nth, List.append_nil, List.nil_append, List.cons_append, List.map_cons, List.map_nil]
      refine seg_reads (fun _ h => by (show sat W [] _; refine sb_from ?_ h; repeat constructor)) ?_; intro X f hne hf hcl; (try simp only [Act.put, List.setIfInBounds_toArray, List.set_cons_succ, List.set_cons_zero]); (repeat ((go_big_quiet_step (fail)); (try simp only [Act.put, List.setIfInBounds_toArray, List.set_cons_succ, List.set_cons_zero]))); refine wpQuiet_nil ?_; clear hcl hf hne hs f X; intro w hs
      go_wp2_with (((with_reducible refine isl ?_); first | ((with_reducible apply cpyr (i := k) (j := 0) (q := q) hs); exact rfl; exact rfl; exact rfl; exact rfl; exact Try.underlying94; exact size41; exact rws6 _; exact HL.out; exact rws_row1; exact HQ.out; exact hq3; omega; clear hs; intro w hs; rw [HS.out] at hs)))
      (refine seg_on hs (fun _ h => h) ?_ ?_)
      · exact fun _ h => by (show sat W [] _; refine sb_from ?_ h; repeat constructor)
      clear hs; intro hs
      refine seg_last (fun _ h => by (show sat W [] _; refine sb_from ?_ h; repeat constructor)) ?_; intro X f hne hf hcl; (try simp only [Act.put, List.setIfInBounds_toArray, List.set_cons_succ, List.set_cons_zero]); (repeat ((go_big_quiet_step (fail)); (try simp only [Act.put, List.setIfInBounds_toArray, List.set_cons_succ, List.set_cons_zero]))); refine wpQuiet_nil ?_; clear hcl hf hne hs f X; intro w hs
      go_wp2_with fail
      go_roundw
      case rel => exact ⟨k + q, _, by omega, by omega, by go_num, HP2, hs⟩
      case measure => simp [intOf]; omega
    · have hge : ¬ (k : Int) < (n : Int) := by omega
      have hk2 : k = n := by omega
      have HE : Hid (ps = List.replicate n (PC.bl at_)) := Lib.hid (by
        have h2 := HP.out.2
        rw [hk2, List.take_of_length_le (by rw [HP.out.1]; exact Nat.le_refl _)] at h2
        exact h2)
      have hs := cmb_bls (a := at_) n (cmb_nil hs)
      rw [List.append_nil] at hs
      clear hkn hk2
      go_wp2_with fail
      go_ret
      refine ⟨_, rfl, ?_⟩
      rw [HE.out] at hs
      have h6 := cls_close (n := n) (by rw [List.length_replicate]) hs.b1
      rw [List.map_replicate] at h6
      exact h6
theorem rw_mk {T b n p : Nat} {a : Option Addr} {l : List C} (hn : l.length = n) (hs : sat W (cel b T [.slice a n p] :: cls (.slice a n p) l :: H) w) : sat W (rwP T b l :: H) w := by
  subst hn
  have h1 := hs.star
  unfold rwP
  exact h1.imp fun _ h => ⟨a, p, h⟩
theorem new7 {n : Nat} (h0 : 1 ≤ n) (h512 : n ≤ 512) (hs : sat W H w) : Calls Try.prog 82 #[.int .i64 (n : Int)] w fun e w' => ∃ b, e = .returned (.tuple #[.pointer (some ⟨b, 0, none⟩), .int .i64 0]) ∧ sat W (rwP 96 b (List.replicate n (bC At.z)) :: H) w' := by
  have hd : decide ((1 : Int) ≤ (n : Int) ∧ (n : Int) ≤ 512) = true := decide_eq_true (by omega)
  have HD := Lib.hid hd
  clear hd
  go_enter Try.func82, Try.ntmps82
  go_wp2_with (first | (go_at_call 66; refine (mayCols28 hs).mono ?_; clear hs; rintro e w ⟨rfl, hs⟩; rw [HD.out]) | (go_at_call 67; refine (blank30 (a := At.z) hs).mono ?_; clear hs; rintro e w ⟨rfl, hs⟩) | (go_at_call 89; refine (repeat29 (by omega) (by omega) hs).mono ?_; clear hs; rintro e w ⟨g, rfl, hs⟩) | ((with_reducible refine isl ?_); first | ((with_reducible refine wrap hs ?_); clear hs; (generalize w.heap.size = z4); intro w hs)))
  refine end_ret rfl (results_tmp2 rfl _ _ _) ?_
  exact ⟨_, rfl, rw_mk (by rw [List.length_replicate]) hs.made⟩
theorem new7_no {k : Int} (h0 : ¬ (1 ≤ k ∧ k ≤ 512)) (hs : sat W H w) : Calls Try.prog 82 #[.int .i64 k] w fun e w' => e = .returned (.tuple #[.pointer none, .int .i64 2]) ∧ sat W H w' := by
  have HD := Lib.hid (show decide (1 ≤ k ∧ k ≤ 512) = false from decide_eq_false h0)
  clear h0
  go_enter Try.func82, Try.ntmps82
  go_wp2_with ((go_at_call 66; refine (mayCols28 hs).mono ?_; clear hs; rintro e w ⟨rfl, hs⟩; rw [HD.out]))
  refine end_ret rfl (results_tmp2 rfl _ _ _) ?_
  exact ⟨rfl, hs⟩
/-- Cells, one of them more. -/
theorem cls_snoc {v v' : Value} {l : List C} {c : C} {ps : List PC} {n : Nat} (hn : ps.length = n) (hs : sat W (own 110 6 v' (n + 1) ((rws ps).flatten ++ cV c (.slice none 0 0)) :: cmb ps :: H) w) (hc : c.comb = []) : sat W (cls v' (ps.map (·.c) ++ [c]) :: H) w := by
  obtain ⟨r, cb, wd, at_⟩ := c
  simp only at hc
  subst hc
  have e : (rws ps).flatten ++ cV ⟨r, [], wd, at_⟩ (.slice none 0 0) = (rws (ps ++ [⟨⟨r, [], wd, at_⟩, none, 0⟩])).flatten := by
    rw [rws_app]
    unfold rws
    simp
  rw [e] at hs
  have h1 : sat W (cmb [⟨⟨r, [], wd, at_⟩, none, 0⟩] :: cmb ps :: own 110 6 v' (n + 1) (rws (ps ++ [⟨⟨r, [], wd, at_⟩, none, 0⟩])).flatten :: H) w := by
    have h2 := (cmb_nil hs).own_nil 21 1
    have h3 : sat W (cmb1 ⟨⟨r, [], wd, at_⟩, none, 0⟩ :: cmb [] :: own 110 6 v' (n + 1) (rws (ps ++ [⟨⟨r, [], wd, at_⟩, none, 0⟩])).flatten :: cmb ps :: H) w := by
      unfold cmb1
      exact h2
    have h4 := cmb_mk h3
    refine sb_from ?_ h4; repeat constructor
  have h5 := cmb_app h1.b1
  have h6 := cls_close (n := n + 1) (by rw [List.length_append, hn]; rfl) (by refine sb_from ?_ h5; repeat constructor : sat W (own 110 6 v' (n + 1) (rws (ps ++ [⟨⟨r, [], wd, at_⟩, none, 0⟩])).flatten :: cmb (ps ++ [⟨⟨r, [], wd, at_⟩, none, 0⟩]) :: H) w)
  rw [List.map_append] at h6
  exact h6
theorem rnew9 {n : Nat} (h512 : n ≤ 512) (hs : sat W H w) : Calls Try.prog 84 #[.int .i64 (n : Int)] w fun e w' => ∃ b, e = .returned (.pointer (some ⟨b, 0, none⟩)) ∧ sat W (rwP 100 b (List.replicate n (bC At.z)) :: H) w' := by
  go_enter Try.func84, Try.ntmps84
  go_wp2_with (fail)
  have hs := hs.made (T := 100) (l := [.slice none 0 0])
  generalize World.alloc w _ = w1 at hs ⊢
  generalize w.heap.size = z4 at hs ⊢
  have hs := hs.own_nil 110 6
  go_loopw [4] (fun i wr => ∃ (k : Nat) (a : Option Addr) (p : Nat), k ≤ n ∧ i = .int .i64 (k : Int) ∧ sat W (own 110 6 (.slice a k p) k (rws (List.replicate k (PC.bl At.z))).flatten :: cel z4 100 [.slice a k p] :: H) wr) (fun i _ => ((n : Int) - intOf i).toNat)
  case atStart => exact ⟨0, none, 0, Nat.zero_le _, rfl, by rw [rws_nil]; refine sb_from ?_ hs; repeat constructor⟩
  case round =>
    clear hs
    obtain ⟨k, a, p, hk, rfl, hs⟩ := hrel
    by_cases hkn : k < n
    · have HS : Hid ((rws (List.replicate k (PC.bl At.z))).flatten ++ cV (bC At.z) (.slice none 0 0) = (rws (List.replicate (k + 1) (PC.bl At.z))).flatten) := Lib.hid (rws_bl_snoc k At.z)
      go_wp2_with (first | (((with_reducible apply app hs.b1); exact rfl; exact rfl; exact rfl; exact rfl; exact slty37; exact rfl; exact rfl; decide; omega; (unfold maxLen; omega); clear hs; intro a9 c9 w hs)) | ((with_reducible refine isl ?_); first | ((with_reducible apply ldx); exact rfl; exact rfl; exact rfl; (exact hs.b1); exact rfl; kernel_rfl) | ((with_reducible apply stx); exact rfl; exact rfl; exact rfl; (exact hs.b1); exact rfl; exact rfl; exact rfl; kernel_rfl; exact rfl; clear hs; intro w hs) | ((with_reducible refine wrap hs ?_); clear hs; intro w hs)))
      go_roundw
      case rel => exact ⟨k + 1, _, _, by omega, by go_num, by rw [← HS.out]; refine sb_from ?_ hs; repeat constructor⟩
      case measure => simp [intOf]; omega
    · have hge : ¬ (k : Int) < (n : Int) := by omega
      obtain rfl : k = n := by omega
      clear hkn
      go_wp2_with fail
      go_ret
      refine ⟨_, rfl, ?_⟩
      have h5 := cmb_bls (a := At.z) k (cmb_nil hs)
      rw [List.append_nil] at h5
      have h6 := rw_close (T := 100) (b := z4) (n := k) (a := a) (p := p) (ps := List.replicate k (PC.bl At.z)) (by rw [List.length_replicate]) (by refine sb_from ?_ h5; repeat constructor)
      rw [List.map_replicate] at h6
      exact h6
theorem copy20 {b n : Nat} {l : List C} (hn : l.length = n) (h0 : 0 < n) (h512 : n ≤ 1000) (h4 : ∀ c ∈ l, c.comb.length ≤ 4) (hs : sat W (rwP 96 b l :: H) w) : Calls Try.prog 81 #[.pointer (some ⟨b, 0, none⟩)] w fun e w' => ∃ b', e = .returned (.pointer (some ⟨b', 0, none⟩)) ∧ sat W (rwP 96 b' l :: rwP 96 b l :: H) w' := by
  have HN0 := Lib.hid hn
  clear hn
  go_enter Try.func81, Try.ntmps81
  go_wp2_with (first | (go_at_call 58; refine (ready40 HN0.out h0 (by apply sk_from (hs := hs); repeat constructor)).mono ?_; clear hs; rintro e w ⟨rfl, hs⟩) | (go_at_call 62; refine (cells11 HN0.out h0 h512 h4 (by apply sk_from (hs := hs); repeat constructor)).mono ?_; clear hs; rintro e w ⟨a, p, rfl, hs⟩))
  go_ret
  exact ⟨_, rfl, rw_mk HN0.out hs.made⟩
end Go.Proofs.Ytdcagaaanbgcoaa
namespace Go.Proofs.Ytdcagaaanbgcoaa
open Go.RowKit Go.Mem Go.Cells
variable {W w : World} {H : List HProp}
/-- A cell without marks is put in another's place. -/
theorem cmb_setn {l : List PC} {i : Nat} {c : C} (hc : c.comb = []) (hs : sat W (cmb l :: H) w) : sat W (cmb (l.set i ⟨c, none, 0⟩) :: H) w := by
  obtain ⟨r, cb, wd, at_⟩ := c
  simp only at hc
  subst hc
  by_cases h : i < l.length
  · have h1 := cmb_at (x := l[i]) (List.getElem?_eq_getElem h) hs
    have h2 : sat W (cmb1 ⟨⟨r, [], wd, at_⟩, none, 0⟩ :: cmb (l.take i) :: cmb (l.drop (i + 1)) :: H) w := by
      unfold cmb1
      exact h1.drop.own_nil 21 1
    exact cmb_put h h2
  · rw [List.set_eq_of_length_le (by omega)]
    exact hs
def putG (l : List C) (k : Int) (x : Int) (wide : Bool) (a : At) : List C × Int :=
  let sz : Int := if wide then 2 else 1
  if ¬ mayC x ∨ k < 0 ∨ (l.length : Int) - sz < k then (l, 2)
  else
    let l2 := partC (partC l k) (k + sz)
    if wide then ((l2.set k.toNat ⟨x, [], 1, a⟩).set (k.toNat + 1) ⟨0, [], 2, a⟩, 0) else (l2.set k.toNat ⟨x, [], 0, a⟩, 0)
attribute [local irreducible] rowTy oneTy World.setCell World.setCells World.alloc World.drew World.drewN Calls sat cel own blk old wpQuiet wpList cmb cmb1 rwP cls rws partC
theorem put22_no {b n : Nat} {l : List C} {k x : Int} {wide : Bool} {at_ : At} (hn : l.length = n) (h0 : 0 < n) (h512 : n ≤ 1000) (h : ¬ mayC x ∨ k < 0 ∨ (n : Int) - (if wide then 2 else 1) < k) (hs : sat W (rwP 96 b l :: H) w) :
    Calls Try.prog 56 #[.pointer (some ⟨b, 0, none⟩), .int .i64 k, .int .i32 x, .bool wide, aV at_] w fun e w' => e = .returned (.int .i64 2) ∧ sat W (rwP 96 b l :: H) w' := by
  have HN0 := Lib.hid hn
  clear hn
  by_cases hm : mayC x
  · have HMY : Hid (decide (mayC x) = true) := Lib.hid (decide_eq_true hm)
    by_cases h1 : k < 0
    · clear h hm
      cases wide with
      | false =>
        go_enter Try.func56, Try.ntmps56
        go_wp2_with (first | (go_at_call 58; refine (ready40 HN0.out h0 (by apply sk_from (hs := hs); repeat constructor)).mono ?_; clear hs; rintro e w ⟨rfl, hs⟩) | (go_at_call 74; refine (mayPut48 hs).mono ?_; clear hs; rintro e w ⟨rfl, hs⟩; rw [HMY.out]) | ((with_reducible refine isl ?_); first | ((with_reducible refine wrap hs ?_); clear hs; (generalize w.heap.size = z4); intro w hs)))
        go_ret
        exact ⟨rfl, by refine sb_from ?_ hs; repeat constructor⟩
      | true =>
        go_enter Try.func56, Try.ntmps56
        go_wp2_with (first | (go_at_call 58; refine (ready40 HN0.out h0 (by apply sk_from (hs := hs); repeat constructor)).mono ?_; clear hs; rintro e w ⟨rfl, hs⟩) | (go_at_call 74; refine (mayPut48 hs).mono ?_; clear hs; rintro e w ⟨rfl, hs⟩; rw [HMY.out]) | ((with_reducible refine isl ?_); first | ((with_reducible refine wrap hs ?_); clear hs; (generalize w.heap.size = z4); intro w hs)))
        go_ret
        exact ⟨rfl, by refine sb_from ?_ hs; repeat constructor⟩
    · have g1 : decide (k < 0) = false := decide_eq_false h1
      cases wide with
      | false =>
        have h2 : (n : Int) - 1 < k := by rcases h with h | h | h; exact absurd hm h; exact absurd h h1; exact h
        clear h hm
        go_enter Try.func56, Try.ntmps56
        go_wp2_with (first | (go_at_call 58; refine (ready40 HN0.out h0 (by apply sk_from (hs := hs); repeat constructor)).mono ?_; clear hs; rintro e w ⟨rfl, hs⟩) | (go_at_call 74; refine (mayPut48 hs).mono ?_; clear hs; rintro e w ⟨rfl, hs⟩; rw [HMY.out]; obtain ⟨ps, a9, p9, hps, hs⟩ := rw_open HN0.out hs; have HP : Hid (ps.length = n ∧ ps.map (·.c) = l) := Lib.hid ⟨by rw [← HN0.out, ← hps, List.length_map], hps⟩; clear hps) | ((with_reducible refine isl ?_); first | ((with_reducible apply ldx); exact rfl; exact rfl; exact rfl; (exact hs.b0); exact rfl; kernel_rfl) | ((with_reducible refine wrap hs ?_); clear hs; (generalize w.heap.size = z4); intro w hs)))
        go_ret
        exact ⟨rfl, by have hs := (show sat W (rwP 96 b l :: cel z4 25 (aC at_) :: H) w from by have h6 := rw_close HP.out.1 (by refine sb_from ?_ hs; repeat constructor : sat W (cel b 96 [.slice a9 n p9] :: own 110 6 (.slice a9 n p9) n (rws ps).flatten :: cmb ps :: cel z4 25 (aC at_) :: H) w); rw [HP.out.2] at h6; exact h6); refine sb_from ?_ hs; repeat constructor⟩
      | true =>
        have h2 : (n : Int) - 2 < k := by rcases h with h | h | h; exact absurd hm h; exact absurd h h1; exact h
        clear h hm
        go_enter Try.func56, Try.ntmps56
        go_wp2_with (first | (go_at_call 58; refine (ready40 HN0.out h0 (by apply sk_from (hs := hs); repeat constructor)).mono ?_; clear hs; rintro e w ⟨rfl, hs⟩) | (go_at_call 74; refine (mayPut48 hs).mono ?_; clear hs; rintro e w ⟨rfl, hs⟩; rw [HMY.out]; obtain ⟨ps, a9, p9, hps, hs⟩ := rw_open HN0.out hs; have HP : Hid (ps.length = n ∧ ps.map (·.c) = l) := Lib.hid ⟨by rw [← HN0.out, ← hps, List.length_map], hps⟩; clear hps) | ((with_reducible refine isl ?_); first | ((with_reducible apply ldx); exact rfl; exact rfl; exact rfl; (exact hs.b0); exact rfl; kernel_rfl) | ((with_reducible refine wrap hs ?_); clear hs; (generalize w.heap.size = z4); intro w hs)))
        go_ret
        exact ⟨rfl, by have hs := (show sat W (rwP 96 b l :: cel z4 25 (aC at_) :: H) w from by have h6 := rw_close HP.out.1 (by refine sb_from ?_ hs; repeat constructor : sat W (cel b 96 [.slice a9 n p9] :: own 110 6 (.slice a9 n p9) n (rws ps).flatten :: cmb ps :: cel z4 25 (aC at_) :: H) w); rw [HP.out.2] at h6; exact h6); refine sb_from ?_ hs; repeat constructor⟩
  · have HMY : Hid (decide (mayC x) = false) := Lib.hid (decide_eq_false hm)
    clear h hm
    cases wide with
    | false =>
      go_enter Try.func56, Try.ntmps56
      go_wp2_with (first | (go_at_call 58; refine (ready40 HN0.out h0 (by apply sk_from (hs := hs); repeat constructor)).mono ?_; clear hs; rintro e w ⟨rfl, hs⟩) | (go_at_call 74; refine (mayPut48 hs).mono ?_; clear hs; rintro e w ⟨rfl, hs⟩; rw [HMY.out]) | ((with_reducible refine isl ?_); first | ((with_reducible refine wrap hs ?_); clear hs; (generalize w.heap.size = z4); intro w hs)))
      go_ret
      exact ⟨rfl, by refine sb_from ?_ hs; repeat constructor⟩
    | true =>
      go_enter Try.func56, Try.ntmps56
      go_wp2_with (first | (go_at_call 58; refine (ready40 HN0.out h0 (by apply sk_from (hs := hs); repeat constructor)).mono ?_; clear hs; rintro e w ⟨rfl, hs⟩) | (go_at_call 74; refine (mayPut48 hs).mono ?_; clear hs; rintro e w ⟨rfl, hs⟩; rw [HMY.out]) | ((with_reducible refine isl ?_); first | ((with_reducible refine wrap hs ?_); clear hs; (generalize w.heap.size = z4); intro w hs)))
      go_ret
      exact ⟨rfl, by refine sb_from ?_ hs; repeat constructor⟩
theorem put22_false {b n c0 : Nat} {l : List C} {x : Int} {at_ : At} (hn : l.length = n) (h512 : n ≤ 1000) (hm : mayC x) (hk : c0 + 1 ≤ n) (hs : sat W (rwP 96 b l :: H) w) :
    Calls Try.prog 56 #[.pointer (some ⟨b, 0, none⟩), .int .i64 (c0 : Int), .int .i32 x, .bool false, aV at_] w fun e w' => e = .returned (.int .i64 0) ∧ sat W (rwP 96 b (putG l c0 x false at_).1 :: H) w' := by
  have h0 : 0 < n := by omega
  have HMY : Hid (decide (mayC x) = true) := Lib.hid (decide_eq_true hm)
  have HN0 := Lib.hid hn
  obtain ⟨l1, hl1⟩ : ∃ l1, partC l (c0 : Int) = l1 := ⟨_, rfl⟩
  obtain ⟨l2, hl2⟩ : ∃ l2, partC l1 ((c0 : Int) + 1) = l2 := ⟨_, rfl⟩
  have HN1 : Hid (l1.length = n) := Lib.hid (by rw [← hl1, partC_length, hn])
  have HN2 : Hid (l2.length = n) := Lib.hid (by rw [← hl2, partC_length, HN1.out])
  have HL1 := Lib.hid hl1
  have HL2 := Lib.hid hl2
  have HG : Hid ((putG l c0 x false at_).1 = l2.set c0 ⟨x, [], 0, at_⟩) := Lib.hid (by
    unfold putG
    rw [hl1]
    simp only [Bool.false_eq_true, if_false]
    rw [hl2, if_neg (by rintro (h | h | h); exact h hm; omega; omega), Int.toNat_natCast])
  have g1 : decide ((c0 : Int) < 0) = false := decide_eq_false (by omega)
  have g2 : ¬ (n : Int) - 1 < (c0 : Int) := by omega
  have g3 : (c0 : Int) < (n : Int) := by omega
  have g4 : (c0 : Int) + 1 < (n : Int) ∨ 1 = 1 := by omega
  skip
  skip
  clear hm hn hl1 hl2 g4
  go_enter Try.func56, Try.ntmps56
  go_upto_region 10 with (first | (go_at_call 58; refine (ready40 HN0.out h0 (by apply sk_from (hs := hs); repeat constructor)).mono ?_; clear hs; rintro e w ⟨rfl, hs⟩) | (go_at_call 74; refine (mayPut48 hs).mono ?_; clear hs; rintro e w ⟨rfl, hs⟩; rw [HMY.out]; obtain ⟨ps, a9, p9, hps, hs⟩ := rw_open HN0.out hs; have HP : Hid (ps.length = n ∧ ps.map (·.c) = l) := Lib.hid ⟨by rw [← HN0.out, ← hps, List.length_map], hps⟩; clear hps) | (go_at_call 75; have hs := (show sat W (rwP 96 b l :: cel z4 25 (aC at_) :: H) w from by have h6 := rw_close HP.out.1 (by refine sb_from ?_ hs; repeat constructor : sat W (cel b 96 [.slice a9 n p9] :: own 110 6 (.slice a9 n p9) n (rws ps).flatten :: cmb ps :: cel z4 25 (aC at_) :: H) w); rw [HP.out.2] at h6; exact h6); refine (part42 HN0.out h512 hs).mono ?_; clear hs; rintro e w ⟨rfl, hs⟩; rw [HL1.out] at hs) | (go_at_call 75; refine (part42 HN1.out h512 hs).mono ?_; clear hs; rintro e w ⟨rfl, hs⟩; rw [HL2.out] at hs) | ((with_reducible refine isl ?_); first | ((with_reducible apply ldx); exact rfl; exact rfl; exact rfl; (exact hs.b0); exact rfl; kernel_rfl) | ((with_reducible refine wrap hs ?_); clear hs; (generalize w.heap.size = z4); intro w hs)))
  obtain ⟨ps, a9, p9, hps, hs⟩ := rw_open HN2.out hs
  have hpn : ps.length = n := by rw [← HN2.out, ← hps, List.length_map]
  obtain ⟨g, rfl⟩ := own_ptr h0 hs.b1
  have HP := Lib.hid (And.intro hpn hps)
  have HK : Hid (c0 < (rws ps).length) := Lib.hid (by rw [rws_len, hpn]; omega)
  have HS1 : Hid ((rws ps).set c0 (cV ⟨x, [], 0, at_⟩ (.slice none 0 0)) = rws (ps.set c0 ⟨⟨x, [], 0, at_⟩, none, 0⟩)) := Lib.hid (rws_set ps c0 ⟨⟨x, [], 0, at_⟩, none, 0⟩)
  clear hpn hps
  refine region_mix [([0, 1, 2, 3, 4, 5, 6, 7, 8], [9])] [] hs (fun _ h => by (show sat W [cel b 96 [.slice (some ⟨g, 0, none⟩) n p9], cel z4 25 (aC at_)] _; refine sb_from ?_ h; repeat constructor)) (by kernel_rfl) (by kernel_rfl) (fun _ _ _ _ _ h => h) ?_
  simp only [segs, nths, nth, List.append_nil, List.nil_append, List.cons_append, List.map_cons, List.map_nil]
  refine seg_reads (fun _ h => by (show sat W [cel b 96 [.slice (some ⟨g, 0, none⟩) n p9], cel z4 25 (aC at_)] _; refine sb_from ?_ h; repeat constructor)) ?_; intro X f hne hf hcl; (try simp only [Act.put, List.setIfInBounds_toArray, List.set_cons_succ, List.set_cons_zero]); (repeat ((first | ((with_reducible apply ldsqx 3); exact rfl; exact rfl; exact rfl; (first | exact fun x => (hf x).b0 | exact fun x => (hf x).b1); exact row33; exact rfl; exact rfl) | ((with_reducible apply ldqx); exact rfl; exact rfl; exact rfl; (exact fun x => (hf x).b0); exact rfl; kernel_rfl) | go_big_quiet_step (fail)); (try simp only [Act.put, List.setIfInBounds_toArray, List.set_cons_succ, List.set_cons_zero]))); refine wpQuiet_nil ?_; clear hcl hf hne hs f X; intro w hs
  go_wp2_with ((((with_reducible apply stor hs.b1); exact rfl; exact rfl; exact rfl; exact rfl; exact HK.out; exact rws6 _; exact row41; exact rfl; exact rfl; exact rfl; clear hs; intro w hs; rw [HS1.out] at hs)))
  (refine seg_on hs (fun _ h => h) ?_ ?_)
  · exact fun _ h => by (show sat W [cel b 96 [.slice (some ⟨g, 0, none⟩) n p9], cel z4 25 (aC at_)] _; refine sb_from ?_ h; repeat constructor)
  clear hs; intro hs
  refine seg_last (fun _ h => by (show sat W [cel b 96 [.slice (some ⟨g, 0, none⟩) n p9], cel z4 25 (aC at_)] _; refine sb_from ?_ h; repeat constructor)) ?_; intro X f hne hf hcl; (try simp only [Act.put, List.setIfInBounds_toArray, List.set_cons_succ, List.set_cons_zero]); (repeat ((fail); (try simp only [Act.put, List.setIfInBounds_toArray, List.set_cons_succ, List.set_cons_zero]))); refine wpQuiet_nil ?_; clear hcl hf hne hs f X; intro w hs
  go_wp2_with fail
  go_ret
  refine ⟨rfl, ?_⟩
  rw [HG.out]
  have h6 : sat W (cmb ps :: cel b 96 [.slice (some ⟨g, 0, none⟩) n p9] :: own 110 6 (.slice (some ⟨g, 0, none⟩) n p9) n (rws (ps.set c0 ⟨⟨x, [], 0, at_⟩, none, 0⟩)).flatten :: H) w := by refine sb_from ?_ hs; repeat constructor
  have h7 := cmb_setn (i := c0) (c := ⟨x, [], 0, at_⟩) rfl h6
  have h8 := rw_close (ps := ps.set c0 ⟨⟨x, [], 0, at_⟩, none, 0⟩) (T := 96) (b := b) (n := n) (a := some ⟨g, 0, none⟩) (p := p9) (by simp only [List.length_set]; exact HP.out.1) (by refine sb_from ?_ h7; repeat constructor)
  simp only [List.map_set, HP.out.2] at h8
  exact h8
theorem put22_true {b n c0 : Nat} {l : List C} {x : Int} {at_ : At} (hn : l.length = n) (h512 : n ≤ 1000) (hm : mayC x) (hk : c0 + 2 ≤ n) (hs : sat W (rwP 96 b l :: H) w) :
    Calls Try.prog 56 #[.pointer (some ⟨b, 0, none⟩), .int .i64 (c0 : Int), .int .i32 x, .bool true, aV at_] w fun e w' => e = .returned (.int .i64 0) ∧ sat W (rwP 96 b (putG l c0 x true at_).1 :: H) w' := by
  have h0 : 0 < n := by omega
  have HMY : Hid (decide (mayC x) = true) := Lib.hid (decide_eq_true hm)
  have HN0 := Lib.hid hn
  obtain ⟨l1, hl1⟩ : ∃ l1, partC l (c0 : Int) = l1 := ⟨_, rfl⟩
  obtain ⟨l2, hl2⟩ : ∃ l2, partC l1 ((c0 : Int) + 2) = l2 := ⟨_, rfl⟩
  have HN1 : Hid (l1.length = n) := Lib.hid (by rw [← hl1, partC_length, hn])
  have HN2 : Hid (l2.length = n) := Lib.hid (by rw [← hl2, partC_length, HN1.out])
  have HL1 := Lib.hid hl1
  have HL2 := Lib.hid hl2
  have HG : Hid ((putG l c0 x true at_).1 = (l2.set c0 ⟨x, [], 1, at_⟩).set (c0 + 1) ⟨0, [], 2, at_⟩) := Lib.hid (by
    unfold putG
    rw [hl1]
    simp only [if_true]
    rw [hl2, if_neg (by rintro (h | h | h); exact h hm; omega; omega), Int.toNat_natCast])
  have g1 : decide ((c0 : Int) < 0) = false := decide_eq_false (by omega)
  have g2 : ¬ (n : Int) - 2 < (c0 : Int) := by omega
  have g3 : (c0 : Int) < (n : Int) := by omega
  have g4 : (c0 : Int) + 1 < (n : Int) ∨ 2 = 1 := by omega
  have g5 : (c0 : Int) + 1 < (n : Int) := by omega
  have g6 : (0 : Int) ≤ (c0 : Int) + 1 := by omega
  clear hm hn hl1 hl2 g4
  go_enter Try.func56, Try.ntmps56
  go_upto_region 10 with (first | (go_at_call 58; refine (ready40 HN0.out h0 (by apply sk_from (hs := hs); repeat constructor)).mono ?_; clear hs; rintro e w ⟨rfl, hs⟩) | (go_at_call 74; refine (mayPut48 hs).mono ?_; clear hs; rintro e w ⟨rfl, hs⟩; rw [HMY.out]; obtain ⟨ps, a9, p9, hps, hs⟩ := rw_open HN0.out hs; have HP : Hid (ps.length = n ∧ ps.map (·.c) = l) := Lib.hid ⟨by rw [← HN0.out, ← hps, List.length_map], hps⟩; clear hps) | (go_at_call 75; have hs := (show sat W (rwP 96 b l :: cel z4 25 (aC at_) :: H) w from by have h6 := rw_close HP.out.1 (by refine sb_from ?_ hs; repeat constructor : sat W (cel b 96 [.slice a9 n p9] :: own 110 6 (.slice a9 n p9) n (rws ps).flatten :: cmb ps :: cel z4 25 (aC at_) :: H) w); rw [HP.out.2] at h6; exact h6); refine (part42 HN0.out h512 hs).mono ?_; clear hs; rintro e w ⟨rfl, hs⟩; rw [HL1.out] at hs) | (go_at_call 75; refine (part42 HN1.out h512 hs).mono ?_; clear hs; rintro e w ⟨rfl, hs⟩; rw [HL2.out] at hs) | ((with_reducible refine isl ?_); first | ((with_reducible apply ldx); exact rfl; exact rfl; exact rfl; (exact hs.b0); exact rfl; kernel_rfl) | ((with_reducible refine wrap hs ?_); clear hs; (generalize w.heap.size = z4); intro w hs)))
  obtain ⟨ps, a9, p9, hps, hs⟩ := rw_open HN2.out hs
  have hpn : ps.length = n := by rw [← HN2.out, ← hps, List.length_map]
  obtain ⟨g, rfl⟩ := own_ptr h0 hs.b1
  have HP := Lib.hid (And.intro hpn hps)
  have HK : Hid (c0 < (rws ps).length) := Lib.hid (by rw [rws_len, hpn]; omega)
  have HS1 : Hid ((rws ps).set c0 (cV ⟨x, [], 0, at_⟩ (.slice none 0 0)) = rws (ps.set c0 ⟨⟨x, [], 0, at_⟩, none, 0⟩)) := Lib.hid (rws_set ps c0 ⟨⟨x, [], 0, at_⟩, none, 0⟩)
  have HX1 : Hid ((rws (ps.set c0 ⟨⟨x, [], 0, at_⟩, none, 0⟩))[c0]? = some (pcV ⟨⟨x, [], 0, at_⟩, none, 0⟩)) := Lib.hid (rws_get (List.getElem?_set_self (by rw [hpn]; omega)))
  have HS2 : Hid ((rws (ps.set c0 ⟨⟨x, [], 0, at_⟩, none, 0⟩)).set c0 ((pcV ⟨⟨x, [], 0, at_⟩, none, 0⟩).set 2 (.int .u8 1)) = rws (ps.set c0 ⟨⟨x, [], 1, at_⟩, none, 0⟩)) := Lib.hid (by
    have h := rws_set (ps.set c0 ⟨⟨x, [], 0, at_⟩, none, 0⟩) c0 ⟨⟨x, [], 1, at_⟩, none, 0⟩
    rw [List.set_set] at h
    exact h)
  have HK2 : Hid (c0 + 1 < (rws (ps.set c0 ⟨⟨x, [], 1, at_⟩, none, 0⟩)).length) := Lib.hid (by rw [rws_len, List.length_set, hpn]; omega)
  have HS3 : Hid ((rws (ps.set c0 ⟨⟨x, [], 1, at_⟩, none, 0⟩)).set (c0 + 1) (cV ⟨0, [], 2, at_⟩ (.slice none 0 0)) = rws ((ps.set c0 ⟨⟨x, [], 1, at_⟩, none, 0⟩).set (c0 + 1) ⟨⟨0, [], 2, at_⟩, none, 0⟩)) := Lib.hid (rws_set (ps.set c0 ⟨⟨x, [], 1, at_⟩, none, 0⟩) (c0 + 1) ⟨⟨0, [], 2, at_⟩, none, 0⟩)
  clear hpn hps
  refine region_mix [([0, 1, 2, 3, 4, 5, 6, 7, 8], [9])] [] hs (fun _ h => by (show sat W [cel b 96 [.slice (some ⟨g, 0, none⟩) n p9], cel z4 25 (aC at_)] _; refine sb_from ?_ h; repeat constructor)) (by kernel_rfl) (by kernel_rfl) (fun _ _ _ _ _ h => h) ?_
  simp only [segs, nths, nth, List.append_nil, List.nil_append, List.cons_append, List.map_cons, List.map_nil]
  refine seg_reads (fun _ h => by (show sat W [cel b 96 [.slice (some ⟨g, 0, none⟩) n p9], cel z4 25 (aC at_)] _; refine sb_from ?_ h; repeat constructor)) ?_; intro X f hne hf hcl; (try simp only [Act.put, List.setIfInBounds_toArray, List.set_cons_succ, List.set_cons_zero]); (repeat ((first | ((with_reducible apply ldsqx 3); exact rfl; exact rfl; exact rfl; (first | exact fun x => (hf x).b0 | exact fun x => (hf x).b1); exact row33; exact rfl; exact rfl) | ((with_reducible apply ldqx); exact rfl; exact rfl; exact rfl; (exact fun x => (hf x).b0); exact rfl; kernel_rfl) | go_big_quiet_step (fail)); (try simp only [Act.put, List.setIfInBounds_toArray, List.set_cons_succ, List.set_cons_zero]))); refine wpQuiet_nil ?_; clear hcl hf hne hs f X; intro w hs
  go_wp2_with ((((with_reducible apply stor hs.b1); exact rfl; exact rfl; exact rfl; exact rfl; exact HK.out; exact rws6 _; exact row41; exact rfl; exact rfl; exact rfl; clear hs; intro w hs; rw [HS1.out] at hs)))
  (refine seg_on hs (fun _ h => h) ?_ ?_)
  · exact fun _ h => by (show sat W [cel b 96 [.slice (some ⟨g, 0, none⟩) n p9], cel z4 25 (aC at_)] _; refine sb_from ?_ h; repeat constructor)
  clear hs; intro hs
  refine seg_last (fun _ h => by (show sat W [cel b 96 [.slice (some ⟨g, 0, none⟩) n p9], cel z4 25 (aC at_)] _; refine sb_from ?_ h; repeat constructor)) ?_; intro X f hne hf hcl; (try simp only [Act.put, List.setIfInBounds_toArray, List.set_cons_succ, List.set_cons_zero]); (repeat ((fail); (try simp only [Act.put, List.setIfInBounds_toArray, List.set_cons_succ, List.set_cons_zero]))); refine wpQuiet_nil ?_; clear hcl hf hne hs f X; intro w hs
  go_wp2_with (first | (((with_reducible apply stofc hs.b0); exact rfl; exact rfl; exact rfl; exact rfl; exact HX1.out; exact rws6 _; exact rfl; exact one5; exact rfl; clear hs; intro w hs; rw [HS2.out] at hs)) | ((with_reducible refine isl ?_); first | ((with_reducible apply ldx); exact rfl; exact rfl; exact rfl; (exact hs.b1); exact rfl; kernel_rfl)))
  refine region_mix [([0, 1, 2, 3, 4, 5, 6, 7, 8], [9])] [] hs (fun _ h => by (show sat W [cel b 96 [.slice (some ⟨g, 0, none⟩) n p9], cel z4 25 (aC at_)] _; refine sb_from ?_ h; repeat constructor)) (by kernel_rfl) (by kernel_rfl) (fun _ _ _ _ _ h => h) ?_
  simp only [segs, nths, nth, List.append_nil, List.nil_append, List.cons_append, List.map_cons, List.map_nil]
  refine seg_reads (fun _ h => by (show sat W [cel b 96 [.slice (some ⟨g, 0, none⟩) n p9], cel z4 25 (aC at_)] _; refine sb_from ?_ h; repeat constructor)) ?_; intro X f hne hf hcl; (try simp only [Act.put, List.setIfInBounds_toArray, List.set_cons_succ, List.set_cons_zero]); (repeat ((first | ((with_reducible apply ldsqx 3); exact rfl; exact rfl; exact rfl; (first | exact fun x => (hf x).b0 | exact fun x => (hf x).b1); exact row33; exact rfl; exact rfl) | ((with_reducible apply ldqx); exact rfl; exact rfl; exact rfl; (exact fun x => (hf x).b0); exact rfl; kernel_rfl) | go_big_quiet_step (fail)); (try simp only [Act.put, List.setIfInBounds_toArray, List.set_cons_succ, List.set_cons_zero]))); refine wpQuiet_nil ?_; clear hcl hf hne hs f X; intro w hs
  go_wp2_with ((((with_reducible apply stor hs.b0); exact rfl; exact rfl; exact rfl; exact rfl; exact HK2.out; exact rws6 _; exact row41; exact rfl; exact rfl; exact rfl; clear hs; intro w hs; rw [HS3.out] at hs)))
  (refine seg_on hs (fun _ h => h) ?_ ?_)
  · exact fun _ h => by (show sat W [cel b 96 [.slice (some ⟨g, 0, none⟩) n p9], cel z4 25 (aC at_)] _; refine sb_from ?_ h; repeat constructor)
  clear hs; intro hs
  refine seg_last (fun _ h => by (show sat W [cel b 96 [.slice (some ⟨g, 0, none⟩) n p9], cel z4 25 (aC at_)] _; refine sb_from ?_ h; repeat constructor)) ?_; intro X f hne hf hcl; (try simp only [Act.put, List.setIfInBounds_toArray, List.set_cons_succ, List.set_cons_zero]); (repeat ((fail); (try simp only [Act.put, List.setIfInBounds_toArray, List.set_cons_succ, List.set_cons_zero]))); refine wpQuiet_nil ?_; clear hcl hf hne hs f X; intro w hs
  go_wp2_with fail
  go_ret
  refine ⟨rfl, ?_⟩
  rw [HG.out]
  have h6 : sat W (cmb ps :: cel b 96 [.slice (some ⟨g, 0, none⟩) n p9] :: own 110 6 (.slice (some ⟨g, 0, none⟩) n p9) n (rws ((ps.set c0 ⟨⟨x, [], 1, at_⟩, none, 0⟩).set (c0 + 1) ⟨⟨0, [], 2, at_⟩, none, 0⟩)).flatten :: H) w := by refine sb_from ?_ hs; repeat constructor
  have h7 := cmb_setn (i := c0 + 1) (c := ⟨0, [], 2, at_⟩) rfl (cmb_setn (i := c0) (c := ⟨x, [], 1, at_⟩) rfl h6)
  have h8 := rw_close (ps := (ps.set c0 ⟨⟨x, [], 1, at_⟩, none, 0⟩).set (c0 + 1) ⟨⟨0, [], 2, at_⟩, none, 0⟩) (T := 96) (b := b) (n := n) (a := some ⟨g, 0, none⟩) (p := p9) (by simp only [List.length_set]; exact HP.out.1) (by refine sb_from ?_ h7; repeat constructor)
  simp only [List.map_set, HP.out.2] at h8
  exact h8
theorem put22 {b n : Nat} {l : List C} {k x : Int} {wide : Bool} {at_ : At} (hn : l.length = n) (h0 : 0 < n) (h512 : n ≤ 1000) (hs : sat W (rwP 96 b l :: H) w) :
    Calls Try.prog 56 #[.pointer (some ⟨b, 0, none⟩), .int .i64 k, .int .i32 x, .bool wide, aV at_] w fun e w' => e = .returned (.int .i64 (putG l k x wide at_).2) ∧ sat W (rwP 96 b (putG l k x wide at_).1 :: H) w' := by
  by_cases h : ¬ mayC x ∨ k < 0 ∨ (n : Int) - (if wide then 2 else 1) < k
  · have e : putG l k x wide at_ = (l, 2) := by
      unfold putG
      rw [if_pos (by rw [hn]; exact h)]
    rw [e]
    exact put22_no hn h0 h512 h hs
  · have hm : mayC x := by
      by_cases hm : mayC x
      · exact hm
      · exact absurd (.inl hm) h
    have hk0 : 0 ≤ k := by omega
    obtain ⟨c0, rfl⟩ : ∃ c0 : Nat, k = (c0 : Int) := ⟨k.toNat, by omega⟩
    have e : (putG l c0 x wide at_).2 = 0 := by
      unfold putG
      rw [if_neg (by rw [hn]; exact h)]
      split <;> rfl
    rw [e]
    cases wide with
    | false => exact put22_false hn h512 hm (by simp at h; omega) hs
    | true => exact put22_true hn h512 hm (by simp at h; omega) hs
end Go.Proofs.Ytdcagaaanbgcoaa
namespace Go.Proofs.Ytdcagaaanbgcoaa
open Go.RowKit Go.Mem Go.Cells
variable {W w : World} {H : List HProp}
def eraseG (l : List C) (f t : Int) (a : At) : List C :=
  let f0 := (min (max f 0) (l.length : Int)).toNat
  let t0 := (min (max t 0) (l.length : Int)).toNat
  if t0 ≤ f0 then l
  else
    let l2 := partC (partC l f0) t0
    l2.take f0 ++ List.replicate (t0 - f0) (bC (grC a)) ++ l2.drop t0
theorem erase_set {α : Type} {ps : List α} {f i : Nat} {B : α} (h1 : f ≤ i) (h2 : i < ps.length) : (ps.take f ++ List.replicate (i - f) B ++ ps.drop i).set i B = ps.take f ++ List.replicate (i + 1 - f) B ++ ps.drop (i + 1) := by
  have e : (ps.take f ++ List.replicate (i - f) B).length = i := by
    rw [List.length_append, List.length_take, List.length_replicate]
    omega
  rw [List.drop_eq_getElem_cons h2]
  have h := set_app_cons2 (ps.take f ++ List.replicate (i - f) B) ps[i] B (ps.drop (i + 1))
  rw [e] at h
  rw [h, show i + 1 - f = (i - f) + 1 from by omega, List.replicate_succ']
  simp
attribute [local irreducible] rowTy oneTy World.setCell World.setCells World.alloc World.drew World.drewN Calls sat cel own blk old wpQuiet wpList cmb cmb1 rwP cls rws partC
theorem erase21 {b n : Nat} {l : List C} {f t : Int} {at_ : At} (hn : l.length = n) (h0 : 0 < n) (h512 : n ≤ 1000) (hs : sat W (rwP 96 b l :: H) w) :
    Calls Try.prog 83 #[.pointer (some ⟨b, 0, none⟩), .int .i64 f, .int .i64 t, aV at_] w fun e w' => e = .returned (.int .i64 0) ∧ sat W (rwP 96 b (eraseG l f t at_) :: H) w' := by
  obtain ⟨f0, hf0⟩ : ∃ f0 : Nat, (f0 : Int) = min (max f 0) (n : Int) := ⟨(min (max f 0) (n : Int)).toNat, by omega⟩
  obtain ⟨t0, ht0⟩ : ∃ t0 : Nat, (t0 : Int) = min (max t 0) (n : Int) := ⟨(min (max t 0) (n : Int)).toNat, by omega⟩
  have HF1 := Lib.hid hf0.symm
  have HT1 := Lib.hid ht0.symm
  have HN0 := Lib.hid hn
  have ht1 : t0 ≤ n := by omega
  have ef : (min (max f 0) (l.length : Int)).toNat = f0 := by rw [hn]; omega
  have et : (min (max t 0) (l.length : Int)).toNat = t0 := by rw [hn]; omega
  by_cases hft : t0 ≤ f0
  · have HG : Hid (eraseG l f t at_ = l) := Lib.hid (by unfold eraseG; rw [ef, et]; simp only; rw [if_pos hft])
    have g1 : decide ((t0 : Int) ≤ (f0 : Int)) = true := decide_eq_true (by omega)
    clear hf0 ht0 hn ef et
    go_enter Try.func83, Try.ntmps83
    go_wp2_with (first | (go_at_call 58; refine (ready40 HN0.out h0 (by apply sk_from (hs := hs); repeat constructor)).mono ?_; clear hs; rintro e w ⟨rfl, hs⟩) | (go_at_call 90; refine (held41 HN0.out (by apply sk_from (hs := hs); repeat constructor)).mono ?_; clear hs; rintro e w ⟨rfl, hs⟩; (first | rw [HF1.out] | rw [HT1.out])) | ((with_reducible refine isl ?_); first | ((with_reducible refine wrap hs ?_); clear hs; (generalize w.heap.size = z4); intro w hs)))
    go_ret
    exact ⟨rfl, by rw [HG.out]; refine sb_from ?_ hs; repeat constructor⟩
  · obtain ⟨l1, hl1⟩ : ∃ l1, partC l (f0 : Int) = l1 := ⟨_, rfl⟩
    obtain ⟨l2, hl2⟩ : ∃ l2, partC l1 (t0 : Int) = l2 := ⟨_, rfl⟩
    have HN1 : Hid (l1.length = n) := Lib.hid (by rw [← hl1, partC_length, hn])
    have HN2 : Hid (l2.length = n) := Lib.hid (by rw [← hl2, partC_length, HN1.out])
    have HL1 := Lib.hid hl1
    have HL2 := Lib.hid hl2
    have HG : Hid (eraseG l f t at_ = l2.take f0 ++ List.replicate (t0 - f0) (bC (grC at_)) ++ l2.drop t0) := Lib.hid (by unfold eraseG; rw [ef, et]; simp only; rw [if_neg hft, hl1, hl2])
    have g1 : decide ((t0 : Int) ≤ (f0 : Int)) = false := decide_eq_false (by omega)
    have hft2 : f0 < t0 := by omega
    clear hf0 ht0 hn ef et hl1 hl2
    go_enter Try.func83, Try.ntmps83
    go_wp2_with (first | (go_at_call 58; refine (ready40 HN0.out h0 (by apply sk_from (hs := hs); repeat constructor)).mono ?_; clear hs; rintro e w ⟨rfl, hs⟩) | (go_at_call 90; refine (held41 HN0.out (by apply sk_from (hs := hs); repeat constructor)).mono ?_; clear hs; rintro e w ⟨rfl, hs⟩; (first | rw [HF1.out] | rw [HT1.out])) | (go_at_call 75; refine (part42 HN0.out h512 (by apply sk_from (hs := hs); repeat constructor)).mono ?_; clear hs; rintro e w ⟨rfl, hs⟩; rw [HL1.out] at hs) | (go_at_call 75; refine (part42 HN1.out h512 (by apply sk_from (hs := hs); repeat constructor)).mono ?_; clear hs; rintro e w ⟨rfl, hs⟩; rw [HL2.out] at hs) | ((with_reducible refine isl ?_); first | ((with_reducible refine wrap hs ?_); clear hs; (generalize w.heap.size = z4); intro w hs)))
    obtain ⟨ps, a9, p9, hps, hs⟩ := rw_open HN2.out hs
    have hpn : ps.length = n := by rw [← HN2.out, ← hps, List.length_map]
    obtain ⟨g, rfl⟩ := own_ptr h0 hs.b1
    have HP := Lib.hid (And.intro hpn hps)
    clear hpn hps
    go_loopw [9] (fun i wr => ∃ k : Nat, f0 ≤ k ∧ k ≤ t0 ∧ i = .int .i64 (k : Int) ∧ sat W (cel b 96 [.slice (some ⟨g, 0, none⟩) n p9] :: own 110 6 (.slice (some ⟨g, 0, none⟩) n p9) n (rws (ps.take f0 ++ List.replicate (k - f0) (PC.bl (grC at_)) ++ ps.drop k)).flatten :: cmb (ps.take f0 ++ List.replicate (k - f0) (PC.bl (grC at_)) ++ ps.drop k) :: cel z4 25 (aC at_) :: H) wr) (fun i _ => ((t0 : Int) - intOf i).toNat)
    case atStart => exact ⟨f0, Nat.le_refl _, by omega, rfl, by
      rw [Nat.sub_self, List.replicate_zero, List.append_nil, List.take_append_drop]
      refine sb_from ?_ hs; repeat constructor⟩
    case round =>
      clear hs
      obtain ⟨k, hk1, hk2, rfl, hs⟩ := hrel
      by_cases hkn : k < t0
      · have hkn3 : k < n := by omega
        have HS0 : Hid ((ps.take f0 ++ List.replicate (k - f0) (PC.bl (grC at_)) ++ ps.drop k).set k (PC.bl (grC at_)) = ps.take f0 ++ List.replicate (k + 1 - f0) (PC.bl (grC at_)) ++ ps.drop (k + 1)) := Lib.hid (erase_set hk1 (by rw [HP.out.1]; exact hkn3))
        have HL : Hid (k < (rws (ps.take f0 ++ List.replicate (k - f0) (PC.bl (grC at_)) ++ ps.drop k)).length) := Lib.hid (by rw [rws_len]; simp only [List.length_append, List.length_take, List.length_replicate, List.length_drop, HP.out.1]; omega)
        have HS : Hid ((rws (ps.take f0 ++ List.replicate (k - f0) (PC.bl (grC at_)) ++ ps.drop k)).set k (cV (bC (grC at_)) (.slice none 0 0)) = rws (ps.take f0 ++ List.replicate (k + 1 - f0) (PC.bl (grC at_)) ++ ps.drop (k + 1))) := Lib.hid (by rw [← HS0.out]; exact rws_set _ k (PC.bl (grC at_)))
        go_wp2_with fail
        refine region_mix [([0, 1, 2, 3, 4, 5], [6]), ([], [7]), ([8], [9])] [] hs (fun _ h => by (show sat W [cel b 96 [.slice (some ⟨g, 0, none⟩) n p9], cel z4 25 (aC at_)] _; refine sb_from ?_ h; repeat constructor)) (by kernel_rfl) (by kernel_rfl) (fun _ _ _ _ _ h => h) ?_
        simp only [segs, nths, nth, List.append_nil, List.nil_append, List.cons_append, List.map_cons, List.map_nil]
        refine seg_reads (fun _ h => by (show sat W [cel b 96 [.slice (some ⟨g, 0, none⟩) n p9], cel z4 25 (aC at_)] _; refine sb_from ?_ h; repeat constructor)) ?_; intro X f hne hf hcl; (try simp only [Act.put, List.setIfInBounds_toArray, List.set_cons_succ, List.set_cons_zero]); (repeat ((first | ((with_reducible apply ldsqx 3); exact rfl; exact rfl; exact rfl; (first | exact fun x => (hf x).b0 | exact fun x => (hf x).b1); exact row33; exact rfl; exact rfl) | ((with_reducible apply ldqx); exact rfl; exact rfl; exact rfl; (exact fun x => (hf x).b0); exact rfl; kernel_rfl) | go_big_quiet_step (fail)); (try simp only [Act.put, List.setIfInBounds_toArray, List.set_cons_succ, List.set_cons_zero]))); refine wpQuiet_nil ?_; clear hcl hf hne hs f X; intro w hs
        go_wp2_with ((go_at_call 91; refine (ground43 (a := at_) hs).mono ?_; clear hs; rintro e w ⟨rfl, hs⟩))
        (refine seg_on hs (fun _ h => h) ?_ ?_)
        · exact fun _ h => by (show sat W [cel b 96 [.slice (some ⟨g, 0, none⟩) n p9], cel z4 25 (aC at_)] _; refine sb_from ?_ h; repeat constructor)
        clear hs; intro hs
        refine seg_reads (fun _ h => by (show sat W [cel b 96 [.slice (some ⟨g, 0, none⟩) n p9], cel z4 25 (aC at_)] _; refine sb_from ?_ h; repeat constructor)) ?_; intro X f hne hf hcl; (try simp only [Act.put, List.setIfInBounds_toArray, List.set_cons_succ, List.set_cons_zero]); (repeat ((fail); (try simp only [Act.put, List.setIfInBounds_toArray, List.set_cons_succ, List.set_cons_zero]))); refine wpQuiet_nil ?_; clear hcl hf hne hs f X; intro w hs
        go_wp2_with ((go_at_call 67; refine (blank30 (a := grC at_) hs).mono ?_; clear hs; rintro e w ⟨rfl, hs⟩))
        (refine seg_on hs (fun _ h => h) ?_ ?_)
        · exact fun _ h => by (show sat W [cel b 96 [.slice (some ⟨g, 0, none⟩) n p9], cel z4 25 (aC at_)] _; refine sb_from ?_ h; repeat constructor)
        clear hs; intro hs
        refine seg_reads (fun _ h => by (show sat W [cel b 96 [.slice (some ⟨g, 0, none⟩) n p9], cel z4 25 (aC at_)] _; refine sb_from ?_ h; repeat constructor)) ?_; intro X f hne hf hcl; (try simp only [Act.put, List.setIfInBounds_toArray, List.set_cons_succ, List.set_cons_zero]); (repeat ((go_big_quiet_step (fail)); (try simp only [Act.put, List.setIfInBounds_toArray, List.set_cons_succ, List.set_cons_zero]))); refine wpQuiet_nil ?_; clear hcl hf hne hs f X; intro w hs
        go_wp2_with ((((with_reducible apply stor hs.b1); exact rfl; exact rfl; exact rfl; exact rfl; exact HL.out; exact rws6 _; exact row41; exact rfl; exact rfl; exact rfl; clear hs; intro w hs; rw [HS.out] at hs)))
        (refine seg_on hs (fun _ h => h) ?_ ?_)
        · exact fun _ h => by (show sat W [cel b 96 [.slice (some ⟨g, 0, none⟩) n p9], cel z4 25 (aC at_)] _; refine sb_from ?_ h; repeat constructor)
        clear hs; intro hs
        refine seg_last (fun _ h => by (show sat W [cel b 96 [.slice (some ⟨g, 0, none⟩) n p9], cel z4 25 (aC at_)] _; refine sb_from ?_ h; repeat constructor)) ?_; intro X f hne hf hcl; (try simp only [Act.put, List.setIfInBounds_toArray, List.set_cons_succ, List.set_cons_zero]); (repeat ((fail); (try simp only [Act.put, List.setIfInBounds_toArray, List.set_cons_succ, List.set_cons_zero]))); refine wpQuiet_nil ?_; clear hcl hf hne hs f X; intro w hs
        go_wp2_with fail
        go_roundw
        case rel =>
          refine ⟨k + 1, by omega, by omega, by go_num, ?_⟩
          have h6 : sat W (cmb (ps.take f0 ++ List.replicate (k - f0) (PC.bl (grC at_)) ++ ps.drop k) :: cel b 96 [.slice (some ⟨g, 0, none⟩) n p9] :: own 110 6 (.slice (some ⟨g, 0, none⟩) n p9) n (rws (ps.take f0 ++ List.replicate (k + 1 - f0) (PC.bl (grC at_)) ++ ps.drop (k + 1))).flatten :: cel z4 25 (aC at_) :: H) w := by refine sb_from ?_ hs; repeat constructor
          have h7 := cmb_set (i := k) (a := grC at_) h6
          rw [HS0.out] at h7
          refine sb_from ?_ h7; repeat constructor
        case measure => simp [intOf]; omega
      · have hge : ¬ (k : Int) < (t0 : Int) := by omega
        obtain rfl : k = t0 := by omega
        clear hkn
        go_wp2_with fail
        go_ret
        refine ⟨rfl, ?_⟩
        rw [HG.out]
        have h8 := rw_close (ps := ps.take f0 ++ List.replicate (k - f0) (PC.bl (grC at_)) ++ ps.drop k) (T := 96) (b := b) (n := n) (a := some ⟨g, 0, none⟩) (p := p9) (by simp only [List.length_append, List.length_take, List.length_replicate, List.length_drop, HP.out.1]; omega) hs
        simp only [List.map_append, List.map_take, List.map_drop, List.map_replicate, HP.out.2] at h8
        exact h8.swap.drop
end Go.Proofs.Ytdcagaaanbgcoaa
