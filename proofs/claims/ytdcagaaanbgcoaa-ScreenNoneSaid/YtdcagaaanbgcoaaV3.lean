/- Law 6: part, mend. -/
import Derived.Test.YtdcagaaanbgcoaaV2
namespace Go.Proofs.Ytdcagaaanbgcoaa
open Go.RowKit Go.Mem Go.Cells
variable {W w : World} {H : List HProp}
theorem ldpsq {X : Type} {f : X → World} {P : Program} {o : Oper} {ops : Array Oper} {rest : List Oper} {a : Act} {Q : Act → Prop} {b i : Nat} {F : List (Nat × Value)} {ty : TypeId} {cs : List Value} {x : Operand} (hf : ∀ x, sat W (pf b F :: H) (f x)) (ho : o.op = .load ty x) (hw : Region.wanted o (yielded ops a.tmps) = true) (hx : a.eval x = .pointer (some ⟨b, i, none⟩))
    (hm : ∀ j v, cs[j]? = some v → (i + j, v) ∈ F) (ht : rowTy P ty cs.length = true) (h : wpQuiet P ops (fun w' => ∃ x : X, w' = f x) Q rest (a.put o.dst (.agg cs.toArray))) : wpQuiet P ops (fun w' => ∃ x : X, w' = f x) Q (o :: rest) a :=
  ldscq ho hw hx (fun x j v hj => (hf x).pf_cell (hm j v hj)) ht h
theorem pf_rows {b g n p : Nat} {F : List (Nat × Value)} {xs : List Value} (hF : ∀ q ∈ F, xs[q.1]? = some q.2) (hs : sat W [cel b 96 [.slice (some ⟨g, 0, none⟩) n p], own 110 6 (.slice (some ⟨g, 0, none⟩) n p) n xs] w) : sat W [cel b 96 [.slice (some ⟨g, 0, none⟩) n p], pf g F] w := by
  have h1 := hs.b1
  rcases h1.own_cases.2 with ⟨e, _⟩ | ⟨g', cap, cur, e, _, _, _, ht, hb⟩
  · cases e
  · cases e
    refine (hb.imp (B := pf g F) fun h k => ⟨cur, 110, k, fun q hq => ?_⟩).b1
    have h2 := hF q hq
    rw [← ht, List.getElem?_take] at h2
    split at h2
    · simpa using h2
    · cases h2
def attF (i : Nat) (a : At) : List (Nat × Value) := [(i * 6 + 3, .int .u32 a.fg), (i * 6 + 4, .int .u32 a.bg), (i * 6 + 5, .int .u16 a.fl)]
theorem attF_rows {ps : List PC} {i : Nat} {x : PC} (h : ps[i]? = some x) : ∀ q ∈ attF i x.c.a, (rws ps).flatten[q.1]? = some q.2 := fun q hq => by
  unfold attF at hq
  simp only [List.mem_cons, List.not_mem_nil, or_false] at hq
  rcases hq with rfl | rfl | rfl
  · exact flat_at (k := 3) (rws6 ps) (rws_get h) rfl
  · exact flat_at (k := 4) (rws6 ps) (rws_get h) rfl
  · exact flat_at (k := 5) (rws6 ps) (rws_get h) rfl
theorem attF_mem {i : Nat} {a : At} : ∀ j v, (aC a)[j]? = some v → (i * 6 + 3 + j, v) ∈ attF i a := fun j v h => by
  match j with
  | 0 => cases h; exact List.mem_cons_self
  | 1 => cases h; exact List.mem_cons_of_mem _ List.mem_cons_self
  | 2 => cases h; exact List.mem_cons_of_mem _ (List.mem_cons_of_mem _ List.mem_cons_self)
  | j + 3 => simp at h
attribute [local irreducible] rowTy oneTy World.setCell World.setCells World.alloc World.drew World.drewN Calls sat cel own blk old wpQuiet wpList cmb cmb1 rwP cls rws
theorem part42_out {b n : Nat} {l : List C} {k : Int} (hn : l.length = n) (hk : ¬ (0 < k ∧ k < n)) (hs : sat W (rwP 96 b l :: H) w) : Calls Try.prog 75 #[.pointer (some ⟨b, 0, none⟩), .int .i64 k] w fun e w' => e = .returned (.tuple #[]) ∧ sat W (rwP 96 b l :: H) w' := by
  obtain ⟨ps, a, p, hps, hs⟩ := rw_open hn hs
  have HN : Hid (ps.length = n ∧ ps.map (·.c) = l) := Lib.hid ⟨by rw [← hn, ← hps, List.length_map], hps⟩
  clear hn hps
  by_cases h0 : 0 < k
  · have h1 : ¬ k < (n : Int) := by omega
    clear hk
    go_enter Try.func75, Try.ntmps75
    go_wp2_with (first | ((with_reducible refine isl ?_); first | ((with_reducible apply ld hs.b0); exact rfl; exact rfl; exact rfl; exact rfl; kernel_rfl) | ((with_reducible apply st hs.b0); exact rfl; exact rfl; exact rfl; exact rfl; exact rfl; exact rfl; kernel_rfl; exact rfl; clear hs; intro w hs) | ((with_reducible apply stc hs.b0); exact rfl; exact rfl; exact rfl; exact rfl; exact rfl; kernel_rfl; exact rfl; clear hs; intro w hs) | ((with_reducible refine wrap hs ?_); clear hs; intro w hs) | ((with_reducible refine wrapn hs ?_); clear hs; intro w hs) | ((with_reducible refine wrapd hs ?_); clear hs; intro w hs)))
    refine end_end0 rfl rfl ?_
    exact ⟨rfl, by rw [← HN.out.2]; exact rw_close HN.out.1 hs⟩
  · clear hk
    go_enter Try.func75, Try.ntmps75
    go_wp2_with (first | ((with_reducible refine isl ?_); first | ((with_reducible apply ld hs.b0); exact rfl; exact rfl; exact rfl; exact rfl; kernel_rfl) | ((with_reducible apply st hs.b0); exact rfl; exact rfl; exact rfl; exact rfl; exact rfl; exact rfl; kernel_rfl; exact rfl; clear hs; intro w hs) | ((with_reducible apply stc hs.b0); exact rfl; exact rfl; exact rfl; exact rfl; exact rfl; kernel_rfl; exact rfl; clear hs; intro w hs) | ((with_reducible refine wrap hs ?_); clear hs; intro w hs) | ((with_reducible refine wrapn hs ?_); clear hs; intro w hs) | ((with_reducible refine wrapd hs ?_); clear hs; intro w hs)))
    refine end_end0 rfl rfl ?_
    exact ⟨rfl, by rw [← HN.out.2]; exact rw_close HN.out.1 hs⟩
theorem part42_in {b n j : Nat} {l : List C} (hn : l.length = n) (h0 : 0 < j) (h1 : j < n) (h512 : n ≤ 1000) (hs : sat W (rwP 96 b l :: H) w) : Calls Try.prog 75 #[.pointer (some ⟨b, 0, none⟩), .int .i64 (j : Int)] w fun e w' => e = .returned (.tuple #[]) ∧ sat W (rwP 96 b (partC l j) :: H) w' := by
  obtain ⟨ps, a, p, hps, hs⟩ := rw_open hn hs
  have hpn : ps.length = n := by rw [← hn, ← hps, List.length_map]
  obtain ⟨g, rfl⟩ := own_ptr (by omega) hs.b1
  obtain ⟨x, hx⟩ : ∃ x, ps[j]? = some x := ⟨_, List.getElem?_eq_getElem (by omega)⟩
  obtain ⟨y, hy⟩ : ∃ y, ps[j - 1]? = some y := ⟨_, List.getElem?_eq_getElem (by omega)⟩
  have HN : Hid (ps.length = n ∧ ps.map (·.c) = l) := Lib.hid ⟨hpn, hps⟩
  have hlx : l[j]? = some x.c := by rw [← hps, List.getElem?_map, hx]; rfl
  have hly : l[j - 1]? = some y.c := by rw [← hps, List.getElem?_map, hy]; rfl
  have hpart : partC l j = if x.c.w = 2 then (l.set (j - 1) (bC y.c.a)).set j (bC x.c.a) else l := by
    unfold partC
    rw [if_pos (by omega), show ((j : Int).toNat) = j from Int.toNat_natCast j, hlx, hly]
  have HX := Lib.hid (rws_get hx)
  have HY := Lib.hid (rws_get hy)
  have hsub : ((j : Int) - 1) = ((j - 1 : Nat) : Int) := by omega
  have g1 : (0 : Int) < (j : Int) := by omega
  have g2 : (j : Int) < (n : Int) := by omega
  by_cases hw : x.c.w = 2
  · have HP : Hid (partC l j = (l.set (j - 1) (bC y.c.a)).set j (bC x.c.a)) := Lib.hid (by rw [hpart, if_pos hw])
    have HS1 : Hid ((rws ps).set (j - 1) (cV (bC y.c.a) (.slice none 0 0)) = rws (ps.set (j - 1) (PC.bl y.c.a))) := Lib.hid (rws_set ps (j - 1) (PC.bl y.c.a))
    have HS2 : Hid ((rws (ps.set (j - 1) (PC.bl y.c.a))).set j (cV (bC x.c.a) (.slice none 0 0)) = rws ((ps.set (j - 1) (PC.bl y.c.a)).set j (PC.bl x.c.a))) := Lib.hid (rws_set (ps.set (j - 1) (PC.bl y.c.a)) j (PC.bl x.c.a))
    have HL1 : Hid (j - 1 < (rws ps).length) := Lib.hid (by rw [rws_len]; omega)
    have HL2 : Hid (j < (rws (ps.set (j - 1) (PC.bl y.c.a))).length) := Lib.hid (by rw [rws_len, List.length_set]; omega)
    obtain ⟨F, hF⟩ : ∃ F, attF (j - 1) y.c.a ++ attF j x.c.a = F := ⟨_, rfl⟩
    have HM1 : Hid (∀ k v, (aC y.c.a)[k]? = some v → ((j - 1) * 6 + 3 + k, v) ∈ F) := Lib.hid fun k v h => by rw [← hF]; exact List.mem_append_left _ (attF_mem k v h)
    have HM2 : Hid (∀ k v, (aC x.c.a)[k]? = some v → (j * 6 + 3 + k, v) ∈ F) := Lib.hid fun k v h => by rw [← hF]; exact List.mem_append_right _ (attF_mem k v h)
    have key : ∀ (qs : List PC) (x' y' : PC), qs[j - 1]? = some y' → qs[j]? = some x' → y'.c.a = y.c.a → x'.c.a = x.c.a → ∀ q ∈ F, (rws qs).flatten[q.1]? = some q.2 := fun qs x' y' h1 h2 e1 e2 q hq => by
      rw [← hF, ← e1, ← e2] at hq
      rcases List.mem_append.1 hq with h | h
      · exact attF_rows h1 q h
      · exact attF_rows h2 q h
    have HF0 : Hid (∀ q ∈ F, (rws ps).flatten[q.1]? = some q.2) := Lib.hid (key ps x y hy hx rfl rfl)
    have HF1 : Hid (∀ q ∈ F, (rws (ps.set (j - 1) (PC.bl y.c.a))).flatten[q.1]? = some q.2) := Lib.hid (key _ x (PC.bl y.c.a) (by rw [List.getElem?_set_self (by omega)]) (by rw [List.getElem?_set_ne (by omega)]; exact hx) rfl rfl)
    have HF2 : Hid (∀ q ∈ F, (rws ((ps.set (j - 1) (PC.bl y.c.a)).set j (PC.bl x.c.a))).flatten[q.1]? = some q.2) := Lib.hid (key _ (PC.bl x.c.a) (PC.bl y.c.a) (by rw [List.getElem?_set_ne (by omega), List.getElem?_set_self (by omega)]) (by rw [List.getElem?_set_self (by rw [List.length_set]; omega)]) rfl rfl)
    clear key hF hpart hn hps hpn hx hy hlx hly
    go_enter Try.func75, Try.ntmps75
    go_wp2_with (first | (first | ((with_reducible apply ldof hs.b0); exact rfl; exact rfl; exact rfl; (first | exact HX.out | exact HY.out); exact rws6 _; exact rfl; exact one5) | ((with_reducible apply ldof hs.b1); exact rfl; exact rfl; exact rfl; (first | exact HX.out | exact HY.out); exact rws6 _; exact rfl; exact one5)) | ((with_reducible refine isl ?_); first | ((with_reducible apply ld hs.b0); exact rfl; exact rfl; exact rfl; exact rfl; kernel_rfl) | ((with_reducible apply st hs.b0); exact rfl; exact rfl; exact rfl; exact rfl; exact rfl; exact rfl; kernel_rfl; exact rfl; clear hs; intro w hs) | ((with_reducible apply stc hs.b0); exact rfl; exact rfl; exact rfl; exact rfl; exact rfl; kernel_rfl; exact rfl; clear hs; intro w hs) | ((with_reducible refine wrap hs ?_); clear hs; intro w hs) | ((with_reducible refine wrapn hs ?_); clear hs; intro w hs) | ((with_reducible refine wrapd hs ?_); clear hs; intro w hs)))
    refine region_mix [([0, 1, 2, 3, 4, 5, 6, 7, 8, 9, 10, 11, 12, 13, 14, 15, 16, 17, 18, 19, 21, 22, 23, 24, 25, 26, 27, 28], [20]), ([], [29]), ([30], [31]), ([32], [33])] [] hs (fun _ h => by (show sat W [cel b 96 [.slice (some ⟨g, 0, none⟩) n p], pf g F] _; first | (refine pf_rows HF0.out ?_; refine sb_from ?_ h; (repeat constructor); done) | (refine pf_rows HF1.out ?_; refine sb_from ?_ h; (repeat constructor); done) | (refine pf_rows HF2.out ?_; refine sb_from ?_ h; (repeat constructor); done))) (by kernel_rfl) (by kernel_rfl) (fun _ _ _ _ _ h => h) ?_
    simp only [segs, nths, nth, List.append_nil, List.nil_append, List.cons_append, List.map_cons, List.map_nil]
    refine seg_reads (fun _ h => by (show sat W [cel b 96 [.slice (some ⟨g, 0, none⟩) n p], pf g F] _; first | (refine pf_rows HF0.out ?_; refine sb_from ?_ h; (repeat constructor); done) | (refine pf_rows HF1.out ?_; refine sb_from ?_ h; (repeat constructor); done) | (refine pf_rows HF2.out ?_; refine sb_from ?_ h; (repeat constructor); done))) ?_; intro X f hne hf hcl; (try simp only [Act.put, List.setIfInBounds_toArray, List.set_cons_succ, List.set_cons_zero]); (repeat ((first | (apply ldpsq (fun x => (hf x).b1); exact rfl; exact rfl; exact rfl; (first | exact HM1.out | exact HM2.out); exact row33) | ((with_reducible apply ldq (fun x => (hf x).b0)); exact rfl; exact rfl; exact rfl; exact rfl; kernel_rfl) | go_big_quiet_step (fail)); (try simp only [Act.put, List.setIfInBounds_toArray, List.set_cons_succ, List.set_cons_zero]))); refine wpQuiet_nil ?_; clear hcl hf hne hs f X; intro w hs
    go_wp2_with (first | (go_at_call 67; (first | refine (blank30 (a := x.c.a) hs).mono ?_ | refine (blank30 (a := y.c.a) hs).mono ?_); clear hs; rintro e w ⟨rfl, hs⟩) | (first | ((with_reducible apply stor hs.b0); exact rfl; exact rfl; exact rfl; exact rfl; (first | exact HL1.out | exact HL2.out); exact rws6 _; exact row41; exact rfl; exact rfl; exact rfl; clear hs; intro w hs; (first | rw [HS1.out] at hs | rw [HS2.out] at hs)) | ((with_reducible apply stor hs.b1); exact rfl; exact rfl; exact rfl; exact rfl; (first | exact HL1.out | exact HL2.out); exact rws6 _; exact row41; exact rfl; exact rfl; exact rfl; clear hs; intro w hs; (first | rw [HS1.out] at hs | rw [HS2.out] at hs))) | ((with_reducible refine isl ?_); first | ((with_reducible apply ld hs.b0); exact rfl; exact rfl; exact rfl; exact rfl; kernel_rfl) | ((with_reducible apply ld hs.b1); exact rfl; exact rfl; exact rfl; exact rfl; kernel_rfl) | ((with_reducible apply st hs.b0); exact rfl; exact rfl; exact rfl; exact rfl; exact rfl; exact rfl; kernel_rfl; exact rfl; clear hs; intro w hs) | ((with_reducible apply st hs.b1); exact rfl; exact rfl; exact rfl; exact rfl; exact rfl; exact rfl; kernel_rfl; exact rfl; clear hs; intro w hs) | ((with_reducible apply stc hs.b0); exact rfl; exact rfl; exact rfl; exact rfl; exact rfl; kernel_rfl; exact rfl; clear hs; intro w hs) | ((with_reducible apply stc hs.b1); exact rfl; exact rfl; exact rfl; exact rfl; exact rfl; kernel_rfl; exact rfl; clear hs; intro w hs) | ((with_reducible refine wrap hs ?_); clear hs; intro w hs) | ((with_reducible refine wrapn hs ?_); clear hs; intro w hs) | ((with_reducible refine wrapd hs ?_); clear hs; intro w hs)))
    (first | refine seg_on hs (fun _ h => h) ?_ ?_ | refine seg_on hs.made (fun _ h => h) ?_ ?_ | refine seg_on hs.drew (fun _ h => h) ?_ ?_ | refine seg_on hs.drew.made (fun _ h => h) ?_ ?_ | refine seg_on (hs.drewN _) (fun _ h => h) ?_ ?_)
    · exact fun _ h => by (show sat W [cel b 96 [.slice (some ⟨g, 0, none⟩) n p], pf g F] _; first | (refine pf_rows HF0.out ?_; refine sb_from ?_ h; (repeat constructor); done) | (refine pf_rows HF1.out ?_; refine sb_from ?_ h; (repeat constructor); done) | (refine pf_rows HF2.out ?_; refine sb_from ?_ h; (repeat constructor); done))
    clear hs; intro hs
    refine seg_reads (fun _ h => by (show sat W [cel b 96 [.slice (some ⟨g, 0, none⟩) n p], pf g F] _; first | (refine pf_rows HF0.out ?_; refine sb_from ?_ h; (repeat constructor); done) | (refine pf_rows HF1.out ?_; refine sb_from ?_ h; (repeat constructor); done) | (refine pf_rows HF2.out ?_; refine sb_from ?_ h; (repeat constructor); done))) ?_; intro X f hne hf hcl; (try simp only [Act.put, List.setIfInBounds_toArray, List.set_cons_succ, List.set_cons_zero]); (repeat ((first | (apply ldpsq (fun x => (hf x).b1); exact rfl; exact rfl; exact rfl; (first | exact HM1.out | exact HM2.out); exact row33) | ((with_reducible apply ldq (fun x => (hf x).b0)); exact rfl; exact rfl; exact rfl; exact rfl; kernel_rfl) | go_big_quiet_step (fail)); (try simp only [Act.put, List.setIfInBounds_toArray, List.set_cons_succ, List.set_cons_zero]))); refine wpQuiet_nil ?_; clear hcl hf hne hs f X; intro w hs
    go_wp2_with (first | (go_at_call 67; (first | refine (blank30 (a := x.c.a) hs).mono ?_ | refine (blank30 (a := y.c.a) hs).mono ?_); clear hs; rintro e w ⟨rfl, hs⟩) | (first | ((with_reducible apply stor hs.b0); exact rfl; exact rfl; exact rfl; exact rfl; (first | exact HL1.out | exact HL2.out); exact rws6 _; exact row41; exact rfl; exact rfl; exact rfl; clear hs; intro w hs; (first | rw [HS1.out] at hs | rw [HS2.out] at hs)) | ((with_reducible apply stor hs.b1); exact rfl; exact rfl; exact rfl; exact rfl; (first | exact HL1.out | exact HL2.out); exact rws6 _; exact row41; exact rfl; exact rfl; exact rfl; clear hs; intro w hs; (first | rw [HS1.out] at hs | rw [HS2.out] at hs))) | ((with_reducible refine isl ?_); first | ((with_reducible apply ld hs.b0); exact rfl; exact rfl; exact rfl; exact rfl; kernel_rfl) | ((with_reducible apply ld hs.b1); exact rfl; exact rfl; exact rfl; exact rfl; kernel_rfl) | ((with_reducible apply st hs.b0); exact rfl; exact rfl; exact rfl; exact rfl; exact rfl; exact rfl; kernel_rfl; exact rfl; clear hs; intro w hs) | ((with_reducible apply st hs.b1); exact rfl; exact rfl; exact rfl; exact rfl; exact rfl; exact rfl; kernel_rfl; exact rfl; clear hs; intro w hs) | ((with_reducible apply stc hs.b0); exact rfl; exact rfl; exact rfl; exact rfl; exact rfl; kernel_rfl; exact rfl; clear hs; intro w hs) | ((with_reducible apply stc hs.b1); exact rfl; exact rfl; exact rfl; exact rfl; exact rfl; kernel_rfl; exact rfl; clear hs; intro w hs) | ((with_reducible refine wrap hs ?_); clear hs; intro w hs) | ((with_reducible refine wrapn hs ?_); clear hs; intro w hs) | ((with_reducible refine wrapd hs ?_); clear hs; intro w hs)))
    (first | refine seg_on hs (fun _ h => h) ?_ ?_ | refine seg_on hs.made (fun _ h => h) ?_ ?_ | refine seg_on hs.drew (fun _ h => h) ?_ ?_ | refine seg_on hs.drew.made (fun _ h => h) ?_ ?_ | refine seg_on (hs.drewN _) (fun _ h => h) ?_ ?_)
    · exact fun _ h => by (show sat W [cel b 96 [.slice (some ⟨g, 0, none⟩) n p], pf g F] _; first | (refine pf_rows HF0.out ?_; refine sb_from ?_ h; (repeat constructor); done) | (refine pf_rows HF1.out ?_; refine sb_from ?_ h; (repeat constructor); done) | (refine pf_rows HF2.out ?_; refine sb_from ?_ h; (repeat constructor); done))
    clear hs; intro hs
    refine seg_reads (fun _ h => by (show sat W [cel b 96 [.slice (some ⟨g, 0, none⟩) n p], pf g F] _; first | (refine pf_rows HF0.out ?_; refine sb_from ?_ h; (repeat constructor); done) | (refine pf_rows HF1.out ?_; refine sb_from ?_ h; (repeat constructor); done) | (refine pf_rows HF2.out ?_; refine sb_from ?_ h; (repeat constructor); done))) ?_; intro X f hne hf hcl; (try simp only [Act.put, List.setIfInBounds_toArray, List.set_cons_succ, List.set_cons_zero]); (repeat ((first | (apply ldpsq (fun x => (hf x).b1); exact rfl; exact rfl; exact rfl; (first | exact HM1.out | exact HM2.out); exact row33) | ((with_reducible apply ldq (fun x => (hf x).b0)); exact rfl; exact rfl; exact rfl; exact rfl; kernel_rfl) | go_big_quiet_step (fail)); (try simp only [Act.put, List.setIfInBounds_toArray, List.set_cons_succ, List.set_cons_zero]))); refine wpQuiet_nil ?_; clear hcl hf hne hs f X; intro w hs
    go_wp2_with (first | (go_at_call 67; (first | refine (blank30 (a := x.c.a) hs).mono ?_ | refine (blank30 (a := y.c.a) hs).mono ?_); clear hs; rintro e w ⟨rfl, hs⟩) | (first | ((with_reducible apply stor hs.b0); exact rfl; exact rfl; exact rfl; exact rfl; (first | exact HL1.out | exact HL2.out); exact rws6 _; exact row41; exact rfl; exact rfl; exact rfl; clear hs; intro w hs; (first | rw [HS1.out] at hs | rw [HS2.out] at hs)) | ((with_reducible apply stor hs.b1); exact rfl; exact rfl; exact rfl; exact rfl; (first | exact HL1.out | exact HL2.out); exact rws6 _; exact row41; exact rfl; exact rfl; exact rfl; clear hs; intro w hs; (first | rw [HS1.out] at hs | rw [HS2.out] at hs))) | ((with_reducible refine isl ?_); first | ((with_reducible apply ld hs.b0); exact rfl; exact rfl; exact rfl; exact rfl; kernel_rfl) | ((with_reducible apply ld hs.b1); exact rfl; exact rfl; exact rfl; exact rfl; kernel_rfl) | ((with_reducible apply st hs.b0); exact rfl; exact rfl; exact rfl; exact rfl; exact rfl; exact rfl; kernel_rfl; exact rfl; clear hs; intro w hs) | ((with_reducible apply st hs.b1); exact rfl; exact rfl; exact rfl; exact rfl; exact rfl; exact rfl; kernel_rfl; exact rfl; clear hs; intro w hs) | ((with_reducible apply stc hs.b0); exact rfl; exact rfl; exact rfl; exact rfl; exact rfl; kernel_rfl; exact rfl; clear hs; intro w hs) | ((with_reducible apply stc hs.b1); exact rfl; exact rfl; exact rfl; exact rfl; exact rfl; kernel_rfl; exact rfl; clear hs; intro w hs) | ((with_reducible refine wrap hs ?_); clear hs; intro w hs) | ((with_reducible refine wrapn hs ?_); clear hs; intro w hs) | ((with_reducible refine wrapd hs ?_); clear hs; intro w hs)))
    (first | refine seg_on hs (fun _ h => h) ?_ ?_ | refine seg_on hs.made (fun _ h => h) ?_ ?_ | refine seg_on hs.drew (fun _ h => h) ?_ ?_ | refine seg_on hs.drew.made (fun _ h => h) ?_ ?_ | refine seg_on (hs.drewN _) (fun _ h => h) ?_ ?_)
    · exact fun _ h => by (show sat W [cel b 96 [.slice (some ⟨g, 0, none⟩) n p], pf g F] _; first | (refine pf_rows HF0.out ?_; refine sb_from ?_ h; (repeat constructor); done) | (refine pf_rows HF1.out ?_; refine sb_from ?_ h; (repeat constructor); done) | (refine pf_rows HF2.out ?_; refine sb_from ?_ h; (repeat constructor); done))
    clear hs; intro hs
    refine seg_reads (fun _ h => by (show sat W [cel b 96 [.slice (some ⟨g, 0, none⟩) n p], pf g F] _; first | (refine pf_rows HF0.out ?_; refine sb_from ?_ h; (repeat constructor); done) | (refine pf_rows HF1.out ?_; refine sb_from ?_ h; (repeat constructor); done) | (refine pf_rows HF2.out ?_; refine sb_from ?_ h; (repeat constructor); done))) ?_; intro X f hne hf hcl; (try simp only [Act.put, List.setIfInBounds_toArray, List.set_cons_succ, List.set_cons_zero]); (repeat ((first | (apply ldpsq (fun x => (hf x).b1); exact rfl; exact rfl; exact rfl; (first | exact HM1.out | exact HM2.out); exact row33) | ((with_reducible apply ldq (fun x => (hf x).b0)); exact rfl; exact rfl; exact rfl; exact rfl; kernel_rfl) | go_big_quiet_step (fail)); (try simp only [Act.put, List.setIfInBounds_toArray, List.set_cons_succ, List.set_cons_zero]))); refine wpQuiet_nil ?_; clear hcl hf hne hs f X; intro w hs
    go_wp2_with (first | (go_at_call 67; (first | refine (blank30 (a := x.c.a) hs).mono ?_ | refine (blank30 (a := y.c.a) hs).mono ?_); clear hs; rintro e w ⟨rfl, hs⟩) | (first | ((with_reducible apply stor hs.b0); exact rfl; exact rfl; exact rfl; exact rfl; (first | exact HL1.out | exact HL2.out); exact rws6 _; exact row41; exact rfl; exact rfl; exact rfl; clear hs; intro w hs; (first | rw [HS1.out] at hs | rw [HS2.out] at hs)) | ((with_reducible apply stor hs.b1); exact rfl; exact rfl; exact rfl; exact rfl; (first | exact HL1.out | exact HL2.out); exact rws6 _; exact row41; exact rfl; exact rfl; exact rfl; clear hs; intro w hs; (first | rw [HS1.out] at hs | rw [HS2.out] at hs))) | ((with_reducible refine isl ?_); first | ((with_reducible apply ld hs.b0); exact rfl; exact rfl; exact rfl; exact rfl; kernel_rfl) | ((with_reducible apply ld hs.b1); exact rfl; exact rfl; exact rfl; exact rfl; kernel_rfl) | ((with_reducible apply st hs.b0); exact rfl; exact rfl; exact rfl; exact rfl; exact rfl; exact rfl; kernel_rfl; exact rfl; clear hs; intro w hs) | ((with_reducible apply st hs.b1); exact rfl; exact rfl; exact rfl; exact rfl; exact rfl; exact rfl; kernel_rfl; exact rfl; clear hs; intro w hs) | ((with_reducible apply stc hs.b0); exact rfl; exact rfl; exact rfl; exact rfl; exact rfl; kernel_rfl; exact rfl; clear hs; intro w hs) | ((with_reducible apply stc hs.b1); exact rfl; exact rfl; exact rfl; exact rfl; exact rfl; kernel_rfl; exact rfl; clear hs; intro w hs) | ((with_reducible refine wrap hs ?_); clear hs; intro w hs) | ((with_reducible refine wrapn hs ?_); clear hs; intro w hs) | ((with_reducible refine wrapd hs ?_); clear hs; intro w hs)))
    (first | refine seg_on hs (fun _ h => h) ?_ ?_ | refine seg_on hs.made (fun _ h => h) ?_ ?_ | refine seg_on hs.drew (fun _ h => h) ?_ ?_ | refine seg_on hs.drew.made (fun _ h => h) ?_ ?_ | refine seg_on (hs.drewN _) (fun _ h => h) ?_ ?_)
    · exact fun _ h => by (show sat W [cel b 96 [.slice (some ⟨g, 0, none⟩) n p], pf g F] _; first | (refine pf_rows HF0.out ?_; refine sb_from ?_ h; (repeat constructor); done) | (refine pf_rows HF1.out ?_; refine sb_from ?_ h; (repeat constructor); done) | (refine pf_rows HF2.out ?_; refine sb_from ?_ h; (repeat constructor); done))
    clear hs; intro hs
    refine seg_last (fun _ h => by (show sat W [cel b 96 [.slice (some ⟨g, 0, none⟩) n p], pf g F] _; first | (refine pf_rows HF0.out ?_; refine sb_from ?_ h; (repeat constructor); done) | (refine pf_rows HF1.out ?_; refine sb_from ?_ h; (repeat constructor); done) | (refine pf_rows HF2.out ?_; refine sb_from ?_ h; (repeat constructor); done))) ?_; intro X f hne hf hcl; (try simp only [Act.put, List.setIfInBounds_toArray, List.set_cons_succ, List.set_cons_zero]); (repeat ((first | (apply ldpsq (fun x => (hf x).b1); exact rfl; exact rfl; exact rfl; (first | exact HM1.out | exact HM2.out); exact row33) | ((with_reducible apply ldq (fun x => (hf x).b0)); exact rfl; exact rfl; exact rfl; exact rfl; kernel_rfl) | go_big_quiet_step (fail)); (try simp only [Act.put, List.setIfInBounds_toArray, List.set_cons_succ, List.set_cons_zero]))); refine wpQuiet_nil ?_; clear hcl hf hne hs f X; intro w hs
    go_wp2_with fail
    refine end_end0 rfl rfl ?_
    refine ⟨rfl, ?_⟩
    rw [HP.out, ← HN.out.2]
    have h5 : sat W (cel b 96 [.slice (some ⟨g, 0, none⟩) n p] :: own 110 6 (.slice (some ⟨g, 0, none⟩) n p) n (rws ((ps.set (j - 1) (PC.bl y.c.a)).set j (PC.bl x.c.a))).flatten :: cmb ((ps.set (j - 1) (PC.bl y.c.a)).set j (PC.bl x.c.a)) :: H) w := by
      have h6 : sat W (cmb ps :: own 110 6 (.slice (some ⟨g, 0, none⟩) n p) n (rws ((ps.set (j - 1) (PC.bl y.c.a)).set j (PC.bl x.c.a))).flatten :: cel b 96 [.slice (some ⟨g, 0, none⟩) n p] :: H) w := by refine sb_from ?_ hs; repeat constructor
      have h7 := cmb_set (i := j) (a := x.c.a) (cmb_set (i := j - 1) (a := y.c.a) h6)
      refine sb_from ?_ h7; repeat constructor
    have h8 := rw_close (by rw [List.length_set, List.length_set]; exact HN.out.1) h5
    rw [List.map_set, List.map_set] at h8
    exact h8
  · have HP : Hid (partC l j = l) := Lib.hid (by rw [hpart, if_neg hw])
    have q1 : (x.c.w == 2) = false := by simpa using hw
    have q2 : decide (x.c.w = 2) = false := decide_eq_false hw
    clear hpart hn hps hpn hx hy hlx hly
    go_enter Try.func75, Try.ntmps75
    go_wp2_with (first | (first | ((with_reducible apply ldof hs.b0); exact rfl; exact rfl; exact rfl; (first | exact HX.out | exact HY.out); exact rws6 _; exact rfl; exact one5) | ((with_reducible apply ldof hs.b1); exact rfl; exact rfl; exact rfl; (first | exact HX.out | exact HY.out); exact rws6 _; exact rfl; exact one5)) | ((with_reducible refine isl ?_); first | ((with_reducible apply ld hs.b0); exact rfl; exact rfl; exact rfl; exact rfl; kernel_rfl) | ((with_reducible apply st hs.b0); exact rfl; exact rfl; exact rfl; exact rfl; exact rfl; exact rfl; kernel_rfl; exact rfl; clear hs; intro w hs) | ((with_reducible apply stc hs.b0); exact rfl; exact rfl; exact rfl; exact rfl; exact rfl; kernel_rfl; exact rfl; clear hs; intro w hs) | ((with_reducible refine wrap hs ?_); clear hs; intro w hs) | ((with_reducible refine wrapn hs ?_); clear hs; intro w hs) | ((with_reducible refine wrapd hs ?_); clear hs; intro w hs)))
    refine end_end0 rfl rfl ?_
    exact ⟨rfl, by rw [HP.out, ← HN.out.2]; exact rw_close HN.out.1 hs⟩
theorem part42 {b n : Nat} {l : List C} {k : Int} (hn : l.length = n) (h512 : n ≤ 1000) (hs : sat W (rwP 96 b l :: H) w) : Calls Try.prog 75 #[.pointer (some ⟨b, 0, none⟩), .int .i64 k] w fun e w' => e = .returned (.tuple #[]) ∧ sat W (rwP 96 b (partC l k) :: H) w' := by
  by_cases hk : 0 < k ∧ k < n
  · obtain ⟨j, rfl⟩ : ∃ j : Nat, k = (j : Int) := ⟨k.toNat, by omega⟩
    exact part42_in hn (by omega) (by omega) h512 hs
  · have e : partC l k = l := by
      unfold partC
      rw [if_neg (by rw [hn]; exact hk)]
    rw [e]
    exact part42_out hn hk hs
theorem partC_length (l : List C) (k : Int) : (partC l k).length = l.length := by
  unfold partC
  split
  · split
    · split <;> simp
    · rfl
  · rfl
end Go.Proofs.Ytdcagaaanbgcoaa
