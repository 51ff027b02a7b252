/- Law 9: a call, by both. -/
import Derived.Test.YtdcagaaanbgcoaaSf
import Derived.Test.YtdcagaaanbgcoaaS27
namespace Go.Proofs.Ytdcagaaanbgcoaa
open Go.RowKit Go.Mem Go.Cells Go.Lines
variable {W w : World} {H : List HProp}
theorem ins_e (X : Sc) (nx : Int) (SL : List LN) (t q : Int) (a : At) : (aIns X nx SL t q a).e = if t < X.top ∨ X.bot < t then 2 else 0 := by unfold aIns; split <;> rfl
attribute [local irreducible] rowTy oneTy World.setCell World.setCells World.alloc World.drew World.drewN Calls sat cel own blk old wpQuiet wpList cmb cmb1 rwP cls rws wi wh fst_ World.rangeAt lrw lnP stP lsP dsP lvs frL downL upL pushs dcP Rds scP aUp aDn aIns aDel aSet aRes aPut
section
variable {most mo : Nat} {X Y : Sc} {nx ny : Int} {SL SY : List LN} {b s d v : Nat}
set_option maxRecDepth 20000 in
theorem do29_1 {o : Op} (hk : o.kind = 1) (hX : Inv most X nx SL) (hY : Inv mo Y ny SY) (nb : nx + 512 ≤ 1000000) (mb : ny + 512 ≤ 1000000) (hmo : most ≤ 10000) (hmo2 : mo ≤ 10000) (hs : sat W (scP b s X :: stP s most nx SL :: dcP d v Y :: dsP v ny mo SY :: H) w) :
    Calls Try.prog 29 #[.pointer (some ⟨b, 0, none⟩), .pointer (some ⟨d, 0, none⟩), .agg #[.int .i64 o.kind, .int .i64 o.at2, .int .i64 o.n, .int .i64 o.cols, .int .i32 o.r, .bool o.wide, .int .u32 o.a.fg, .int .u32 o.a.bg, .int .u16 o.a.fl]] w fun e w' => e = .returned (.bool true) ∧ sat W (scP b s (aUp most X nx SL o.n o.a).x :: stP s most (aUp most X nx SL o.n o.a).nx (aUp most X nx SL o.n o.a).sl :: dcP d v (aUp mo Y ny SY o.n o.a).x :: dsP v (aUp mo Y ny SY o.n o.a).nx mo (aUp mo Y ny SY o.n o.a).sl :: H) w' := by
  obtain ⟨kind, at2, n, cols, r, wide, ⟨fg, bg, fl⟩⟩ := o
  dsimp only at hk ⊢
  have HB := Lib.hid (And.intro nb (And.intro mb (And.intro hmo hmo2)))
  clear nb mb hmo hmo2
  subst hk
  go_enter Try.func29, Try.ntmps29
  go_wp2_with (first | (go_at_call 50; refine (dUp (q := n) (a := ⟨fg, bg, fl⟩) hY HB.out.2.1 HB.out.2.2.2 (by (apply sk_from (hs := hs); repeat constructor))).mono ?_; clear hs; rintro e w ⟨rfl, hs⟩) | (go_at_call 12; refine (pUp (q := n) (a := ⟨fg, bg, fl⟩) hX HB.out.1 HB.out.2.2.1 (by (apply sk_from (hs := hs); repeat constructor))).mono ?_; clear hs; rintro e w ⟨rfl, hs⟩) | ((with_reducible refine isl ?_); first | ((with_reducible apply ldsx 3); exact rfl; exact rfl; exact rfl; (first | exact hs.b0 | exact hs.b2); exact row33; exact rfl; exact rfl) | ((with_reducible apply ldx); exact rfl; exact rfl; exact rfl; (first | exact hs.b0 | exact hs.b2); exact rfl; kernel_rfl) | ((with_reducible refine wrap hs ?_); clear hs; (generalize w.heap.size = z5); intro w hs)))
  go_ret
  exact ⟨rfl, by refine sb_from ?_ hs; repeat constructor⟩
set_option maxRecDepth 20000 in
theorem do29_2 {o : Op} (hk : o.kind = 2) (hX : Inv most X nx SL) (hY : Inv mo Y ny SY) (nb : nx + 512 ≤ 1000000) (mb : ny + 512 ≤ 1000000) (hmo : most ≤ 10000) (hmo2 : mo ≤ 10000) (hs : sat W (scP b s X :: stP s most nx SL :: dcP d v Y :: dsP v ny mo SY :: H) w) :
    Calls Try.prog 29 #[.pointer (some ⟨b, 0, none⟩), .pointer (some ⟨d, 0, none⟩), .agg #[.int .i64 o.kind, .int .i64 o.at2, .int .i64 o.n, .int .i64 o.cols, .int .i32 o.r, .bool o.wide, .int .u32 o.a.fg, .int .u32 o.a.bg, .int .u16 o.a.fl]] w fun e w' => e = .returned (.bool true) ∧ sat W (scP b s (aDn X nx SL o.n o.a).x :: stP s most (aDn X nx SL o.n o.a).nx (aDn X nx SL o.n o.a).sl :: dcP d v (aDn Y ny SY o.n o.a).x :: dsP v (aDn Y ny SY o.n o.a).nx mo (aDn Y ny SY o.n o.a).sl :: H) w' := by
  obtain ⟨kind, at2, n, cols, r, wide, ⟨fg, bg, fl⟩⟩ := o
  dsimp only at hk ⊢
  have HB := Lib.hid (And.intro nb (And.intro mb (And.intro hmo hmo2)))
  clear nb mb hmo hmo2
  subst hk
  go_enter Try.func29, Try.ntmps29
  go_wp2_with (first | (go_at_call 51; refine (dDn (q := n) (a := ⟨fg, bg, fl⟩) hY HB.out.2.1 HB.out.2.2.2 (by (apply sk_from (hs := hs); repeat constructor))).mono ?_; clear hs; rintro e w ⟨rfl, hs⟩) | (go_at_call 13; refine (pDn (q := n) (a := ⟨fg, bg, fl⟩) hX HB.out.1 HB.out.2.2.1 (by (apply sk_from (hs := hs); repeat constructor))).mono ?_; clear hs; rintro e w ⟨rfl, hs⟩) | ((with_reducible refine isl ?_); first | ((with_reducible apply ldsx 3); exact rfl; exact rfl; exact rfl; (first | exact hs.b0 | exact hs.b2); exact row33; exact rfl; exact rfl) | ((with_reducible apply ldx); exact rfl; exact rfl; exact rfl; (first | exact hs.b0 | exact hs.b2); exact rfl; kernel_rfl) | ((with_reducible refine wrap hs ?_); clear hs; (generalize w.heap.size = z5); intro w hs)))
  go_ret
  exact ⟨rfl, by refine sb_from ?_ hs; repeat constructor⟩
set_option maxRecDepth 20000 in
theorem do29_3 {o : Op} (hk : o.kind = 3) (hX : Inv most X nx SL) (hY : Inv mo Y ny SY) (nb : nx + 512 ≤ 1000000) (mb : ny + 512 ≤ 1000000) (hmo : most ≤ 10000) (hmo2 : mo ≤ 10000) (hs : sat W (scP b s X :: stP s most nx SL :: dcP d v Y :: dsP v ny mo SY :: H) w) :
    Calls Try.prog 29 #[.pointer (some ⟨b, 0, none⟩), .pointer (some ⟨d, 0, none⟩), .agg #[.int .i64 o.kind, .int .i64 o.at2, .int .i64 o.n, .int .i64 o.cols, .int .i32 o.r, .bool o.wide, .int .u32 o.a.fg, .int .u32 o.a.bg, .int .u16 o.a.fl]] w fun e w' => e = .returned (.bool (decide ((aIns X nx SL o.at2 o.n o.a).e = (aIns Y ny SY o.at2 o.n o.a).e))) ∧ sat W (scP b s (aIns X nx SL o.at2 o.n o.a).x :: stP s most (aIns X nx SL o.at2 o.n o.a).nx (aIns X nx SL o.at2 o.n o.a).sl :: dcP d v (aIns Y ny SY o.at2 o.n o.a).x :: dsP v (aIns Y ny SY o.at2 o.n o.a).nx mo (aIns Y ny SY o.at2 o.n o.a).sl :: H) w' := by
  obtain ⟨kind, at2, n, cols, r, wide, ⟨fg, bg, fl⟩⟩ := o
  dsimp only at hk ⊢
  have HB := Lib.hid (And.intro nb (And.intro mb (And.intro hmo hmo2)))
  clear nb mb hmo hmo2
  subst hk
  obtain ⟨e1, he1⟩ : ∃ e, (aIns X nx SL at2 n ⟨fg, bg, fl⟩).e = e := ⟨_, rfl⟩
  obtain ⟨e2, he2⟩ : ∃ e, (aIns Y ny SY at2 n ⟨fg, bg, fl⟩).e = e := ⟨_, rfl⟩
  have HE1 := Lib.hid he1
  have HE2 := Lib.hid he2
  by_cases hE : e1 = e2
  · subst hE
    have HD : Hid (decide ((aIns X nx SL at2 n ⟨fg, bg, fl⟩).e = (aIns Y ny SY at2 n ⟨fg, bg, fl⟩).e) = true) := Lib.hid (decide_eq_true (he1.trans he2.symm))
    rw [HD.out]
    clear he1 he2
    go_enter Try.func29, Try.ntmps29
    go_upto_region 9 with (((with_reducible refine isl ?_); first | ((with_reducible apply ldx); exact rfl; exact rfl; exact rfl; (exact hs.b0); exact rfl; kernel_rfl) | ((with_reducible refine wrap hs ?_); clear hs; (generalize w.heap.size = z5); intro w hs)))
    refine region_mix (Hs := [cel z5 43 [.int .i64 3, .int .i64 at2, .int .i64 n, .int .i64 cols, .int .i32 r, .bool wide, .int .u32 fg, .int .u32 bg, .int .u16 fl]]) [([0, 1, 2, 3, 4, 5, 6, 8, 9, 10, 11, 12, 13, 14], [7]), ([], [15])] [16, 17] hs (fun _ h => by (refine sb_from ?_ h; repeat constructor)) (by kernel_rfl) (by kernel_rfl) (fun _ _ _ _ _ h => h) ?_
    simp only [segs, nths, nth, List.append_nil, List.nil_append, List.cons_append, List.map_cons, List.map_nil]
    refine seg_reads (fun _ h => by (refine sb_from ?_ h; repeat constructor)) ?_; intro X f hne hf hcl; (try simp only [Act.put, List.setIfInBounds_toArray, List.set_cons_succ, List.set_cons_zero]); (repeat ((first | ((with_reducible apply ldsq (cs := [.int .u32 fg, .int .u32 bg, .int .u16 fl]) 3 (fun x => (hf x).b0)); exact rfl; exact rfl; exact rfl; exact row33; exact rfl; exact rfl) | ((with_reducible apply ldqx); exact rfl; exact rfl; exact rfl; exact fun x => (hf x).b0; exact rfl; kernel_rfl) | go_big_quiet_step (fail)); (try simp only [Act.put, List.setIfInBounds_toArray, List.set_cons_succ, List.set_cons_zero]))); refine wpQuiet_nil ?_; clear hcl hf hne hs f X; intro w hs
    go_wp2_with ((go_at_call 16; refine (pIns (t := at2) (q := n) (a := ⟨fg, bg, fl⟩) hX HB.out.1 HB.out.2.2.1 (by (apply sk_from (hs := hs); repeat constructor))).mono ?_; clear hs; rintro e w ⟨rfl, hs⟩; rw [HE1.out]))
    (refine seg_on (Hs' := [cel z5 43 [.int .i64 3, .int .i64 at2, .int .i64 n, .int .i64 cols, .int .i32 r, .bool wide, .int .u32 fg, .int .u32 bg, .int .u16 fl]]) hs (fun _ h => by (refine sb_from ?_ h; repeat constructor)) ?_ ?_)
    · exact fun _ h => by (refine sb_from ?_ h; repeat constructor)
    clear hs; intro hs
    refine seg_reads (fun _ h => by (refine sb_from ?_ h; repeat constructor)) ?_; intro X f hne hf hcl; (try simp only [Act.put, List.setIfInBounds_toArray, List.set_cons_succ, List.set_cons_zero]); (repeat ((fail); (try simp only [Act.put, List.setIfInBounds_toArray, List.set_cons_succ, List.set_cons_zero]))); refine wpQuiet_nil ?_; clear hcl hf hne hs f X; intro w hs
    go_wp2_with ((go_at_call 52; refine (dIns (t := at2) (q := n) (a := ⟨fg, bg, fl⟩) hY HB.out.2.1 HB.out.2.2.2 (by (apply sk_from (hs := hs); repeat constructor))).mono ?_; clear hs; rintro e w ⟨rfl, hs⟩; rw [HE2.out]))
    (refine seg_on (Hs' := [cel z5 43 [.int .i64 3, .int .i64 at2, .int .i64 n, .int .i64 cols, .int .i32 r, .bool wide, .int .u32 fg, .int .u32 bg, .int .u16 fl]]) hs (fun _ h => by (refine sb_from ?_ h; repeat constructor)) ?_ ?_)
    · exact fun _ h => by (refine sb_from ?_ h; repeat constructor)
    clear hs; intro hs
    refine seg_last (fun _ h => by (refine sb_from ?_ h; repeat constructor)) ?_; intro X f hne hf hcl; (try simp only [Act.put, List.setIfInBounds_toArray, List.set_cons_succ, List.set_cons_zero]); (repeat ((go_big_quiet_step (fail)); (try simp only [Act.put, List.setIfInBounds_toArray, List.set_cons_succ, List.set_cons_zero]))); refine wpQuiet_nil ?_; clear hcl hf hne hs f X; intro w hs
    go_wp2_with fail
    go_ret
    exact ⟨rfl, by refine sb_from ?_ hs; repeat constructor⟩
  · have hE2 : (e1 == e2) = false := beq_eq_false_iff_ne.2 hE
    have HD : Hid (decide ((aIns X nx SL at2 n ⟨fg, bg, fl⟩).e = (aIns Y ny SY at2 n ⟨fg, bg, fl⟩).e) = false) := Lib.hid (decide_eq_false (by rw [he1, he2]; exact hE))
    rw [HD.out]
    clear he1 he2
    go_enter Try.func29, Try.ntmps29
    go_upto_region 9 with (((with_reducible refine isl ?_); first | ((with_reducible apply ldx); exact rfl; exact rfl; exact rfl; (exact hs.b0); exact rfl; kernel_rfl) | ((with_reducible refine wrap hs ?_); clear hs; (generalize w.heap.size = z5); intro w hs)))
    refine region_mix (Hs := [cel z5 43 [.int .i64 3, .int .i64 at2, .int .i64 n, .int .i64 cols, .int .i32 r, .bool wide, .int .u32 fg, .int .u32 bg, .int .u16 fl]]) [([0, 1, 2, 3, 4, 5, 6, 8, 9, 10, 11, 12, 13, 14], [7]), ([], [15])] [16, 17] hs (fun _ h => by (refine sb_from ?_ h; repeat constructor)) (by kernel_rfl) (by kernel_rfl) (fun _ _ _ _ _ h => h) ?_
    simp only [segs, nths, nth, List.append_nil, List.nil_append, List.cons_append, List.map_cons, List.map_nil]
    refine seg_reads (fun _ h => by (refine sb_from ?_ h; repeat constructor)) ?_; intro X f hne hf hcl; (try simp only [Act.put, List.setIfInBounds_toArray, List.set_cons_succ, List.set_cons_zero]); (repeat ((first | ((with_reducible apply ldsq (cs := [.int .u32 fg, .int .u32 bg, .int .u16 fl]) 3 (fun x => (hf x).b0)); exact rfl; exact rfl; exact rfl; exact row33; exact rfl; exact rfl) | ((with_reducible apply ldqx); exact rfl; exact rfl; exact rfl; exact fun x => (hf x).b0; exact rfl; kernel_rfl) | go_big_quiet_step (fail)); (try simp only [Act.put, List.setIfInBounds_toArray, List.set_cons_succ, List.set_cons_zero]))); refine wpQuiet_nil ?_; clear hcl hf hne hs f X; intro w hs
    go_wp2_with ((go_at_call 16; refine (pIns (t := at2) (q := n) (a := ⟨fg, bg, fl⟩) hX HB.out.1 HB.out.2.2.1 (by (apply sk_from (hs := hs); repeat constructor))).mono ?_; clear hs; rintro e w ⟨rfl, hs⟩; rw [HE1.out]))
    (refine seg_on (Hs' := [cel z5 43 [.int .i64 3, .int .i64 at2, .int .i64 n, .int .i64 cols, .int .i32 r, .bool wide, .int .u32 fg, .int .u32 bg, .int .u16 fl]]) hs (fun _ h => by (refine sb_from ?_ h; repeat constructor)) ?_ ?_)
    · exact fun _ h => by (refine sb_from ?_ h; repeat constructor)
    clear hs; intro hs
    refine seg_reads (fun _ h => by (refine sb_from ?_ h; repeat constructor)) ?_; intro X f hne hf hcl; (try simp only [Act.put, List.setIfInBounds_toArray, List.set_cons_succ, List.set_cons_zero]); (repeat ((fail); (try simp only [Act.put, List.setIfInBounds_toArray, List.set_cons_succ, List.set_cons_zero]))); refine wpQuiet_nil ?_; clear hcl hf hne hs f X; intro w hs
    go_wp2_with ((go_at_call 52; refine (dIns (t := at2) (q := n) (a := ⟨fg, bg, fl⟩) hY HB.out.2.1 HB.out.2.2.2 (by (apply sk_from (hs := hs); repeat constructor))).mono ?_; clear hs; rintro e w ⟨rfl, hs⟩; rw [HE2.out]))
    (refine seg_on (Hs' := [cel z5 43 [.int .i64 3, .int .i64 at2, .int .i64 n, .int .i64 cols, .int .i32 r, .bool wide, .int .u32 fg, .int .u32 bg, .int .u16 fl]]) hs (fun _ h => by (refine sb_from ?_ h; repeat constructor)) ?_ ?_)
    · exact fun _ h => by (refine sb_from ?_ h; repeat constructor)
    clear hs; intro hs
    refine seg_last (fun _ h => by (refine sb_from ?_ h; repeat constructor)) ?_; intro X f hne hf hcl; (try simp only [Act.put, List.setIfInBounds_toArray, List.set_cons_succ, List.set_cons_zero]); (repeat ((go_big_quiet_step (fail)); (try simp only [Act.put, List.setIfInBounds_toArray, List.set_cons_succ, List.set_cons_zero]))); refine wpQuiet_nil ?_; clear hcl hf hne hs f X; intro w hs
    go_wp2_with fail
    go_ret
    exact ⟨rfl, by refine sb_from ?_ hs; repeat constructor⟩
set_option maxRecDepth 20000 in
theorem do29_4 {o : Op} (hk : o.kind = 4) (hX : Inv most X nx SL) (hY : Inv mo Y ny SY) (nb : nx + 512 ≤ 1000000) (mb : ny + 512 ≤ 1000000) (hmo : most ≤ 10000) (hmo2 : mo ≤ 10000) (hs : sat W (scP b s X :: stP s most nx SL :: dcP d v Y :: dsP v ny mo SY :: H) w) :
    Calls Try.prog 29 #[.pointer (some ⟨b, 0, none⟩), .pointer (some ⟨d, 0, none⟩), .agg #[.int .i64 o.kind, .int .i64 o.at2, .int .i64 o.n, .int .i64 o.cols, .int .i32 o.r, .bool o.wide, .int .u32 o.a.fg, .int .u32 o.a.bg, .int .u16 o.a.fl]] w fun e w' => e = .returned (.bool (decide ((aDel X nx SL o.at2 o.n o.a).e = (aDel Y ny SY o.at2 o.n o.a).e))) ∧ sat W (scP b s (aDel X nx SL o.at2 o.n o.a).x :: stP s most (aDel X nx SL o.at2 o.n o.a).nx (aDel X nx SL o.at2 o.n o.a).sl :: dcP d v (aDel Y ny SY o.at2 o.n o.a).x :: dsP v (aDel Y ny SY o.at2 o.n o.a).nx mo (aDel Y ny SY o.at2 o.n o.a).sl :: H) w' := by
  obtain ⟨kind, at2, n, cols, r, wide, ⟨fg, bg, fl⟩⟩ := o
  dsimp only at hk ⊢
  have HB := Lib.hid (And.intro nb (And.intro mb (And.intro hmo hmo2)))
  clear nb mb hmo hmo2
  subst hk
  obtain ⟨e1, he1⟩ : ∃ e, (aDel X nx SL at2 n ⟨fg, bg, fl⟩).e = e := ⟨_, rfl⟩
  obtain ⟨e2, he2⟩ : ∃ e, (aDel Y ny SY at2 n ⟨fg, bg, fl⟩).e = e := ⟨_, rfl⟩
  have HE1 := Lib.hid he1
  have HE2 := Lib.hid he2
  by_cases hE : e1 = e2
  · subst hE
    have HD : Hid (decide ((aDel X nx SL at2 n ⟨fg, bg, fl⟩).e = (aDel Y ny SY at2 n ⟨fg, bg, fl⟩).e) = true) := Lib.hid (decide_eq_true (he1.trans he2.symm))
    rw [HD.out]
    clear he1 he2
    go_enter Try.func29, Try.ntmps29
    go_upto_region 11 with (((with_reducible refine isl ?_); first | ((with_reducible apply ldx); exact rfl; exact rfl; exact rfl; (exact hs.b0); exact rfl; kernel_rfl) | ((with_reducible refine wrap hs ?_); clear hs; (generalize w.heap.size = z5); intro w hs)))
    refine region_mix (Hs := [cel z5 43 [.int .i64 4, .int .i64 at2, .int .i64 n, .int .i64 cols, .int .i32 r, .bool wide, .int .u32 fg, .int .u32 bg, .int .u16 fl]]) [([0, 1, 2, 3, 4, 5, 6, 8, 9, 10, 11, 12, 13, 14], [7]), ([], [15])] [16, 17] hs (fun _ h => by (refine sb_from ?_ h; repeat constructor)) (by kernel_rfl) (by kernel_rfl) (fun _ _ _ _ _ h => h) ?_
    simp only [segs, nths, nth, List.append_nil, List.nil_append, List.cons_append, List.map_cons, List.map_nil]
    refine seg_reads (fun _ h => by (refine sb_from ?_ h; repeat constructor)) ?_; intro X f hne hf hcl; (try simp only [Act.put, List.setIfInBounds_toArray, List.set_cons_succ, List.set_cons_zero]); (repeat ((first | ((with_reducible apply ldsq (cs := [.int .u32 fg, .int .u32 bg, .int .u16 fl]) 3 (fun x => (hf x).b0)); exact rfl; exact rfl; exact rfl; exact row33; exact rfl; exact rfl) | ((with_reducible apply ldqx); exact rfl; exact rfl; exact rfl; exact fun x => (hf x).b0; exact rfl; kernel_rfl) | go_big_quiet_step (fail)); (try simp only [Act.put, List.setIfInBounds_toArray, List.set_cons_succ, List.set_cons_zero]))); refine wpQuiet_nil ?_; clear hcl hf hne hs f X; intro w hs
    go_wp2_with ((go_at_call 17; refine (pDel (t := at2) (q := n) (a := ⟨fg, bg, fl⟩) hX HB.out.1 HB.out.2.2.1 (by (apply sk_from (hs := hs); repeat constructor))).mono ?_; clear hs; rintro e w ⟨rfl, hs⟩; rw [HE1.out]))
    (refine seg_on (Hs' := [cel z5 43 [.int .i64 4, .int .i64 at2, .int .i64 n, .int .i64 cols, .int .i32 r, .bool wide, .int .u32 fg, .int .u32 bg, .int .u16 fl]]) hs (fun _ h => by (refine sb_from ?_ h; repeat constructor)) ?_ ?_)
    · exact fun _ h => by (refine sb_from ?_ h; repeat constructor)
    clear hs; intro hs
    refine seg_reads (fun _ h => by (refine sb_from ?_ h; repeat constructor)) ?_; intro X f hne hf hcl; (try simp only [Act.put, List.setIfInBounds_toArray, List.set_cons_succ, List.set_cons_zero]); (repeat ((fail); (try simp only [Act.put, List.setIfInBounds_toArray, List.set_cons_succ, List.set_cons_zero]))); refine wpQuiet_nil ?_; clear hcl hf hne hs f X; intro w hs
    go_wp2_with ((go_at_call 53; refine (dDel (t := at2) (q := n) (a := ⟨fg, bg, fl⟩) hY HB.out.2.1 HB.out.2.2.2 (by (apply sk_from (hs := hs); repeat constructor))).mono ?_; clear hs; rintro e w ⟨rfl, hs⟩; rw [HE2.out]))
    (refine seg_on (Hs' := [cel z5 43 [.int .i64 4, .int .i64 at2, .int .i64 n, .int .i64 cols, .int .i32 r, .bool wide, .int .u32 fg, .int .u32 bg, .int .u16 fl]]) hs (fun _ h => by (refine sb_from ?_ h; repeat constructor)) ?_ ?_)
    · exact fun _ h => by (refine sb_from ?_ h; repeat constructor)
    clear hs; intro hs
    refine seg_last (fun _ h => by (refine sb_from ?_ h; repeat constructor)) ?_; intro X f hne hf hcl; (try simp only [Act.put, List.setIfInBounds_toArray, List.set_cons_succ, List.set_cons_zero]); (repeat ((go_big_quiet_step (fail)); (try simp only [Act.put, List.setIfInBounds_toArray, List.set_cons_succ, List.set_cons_zero]))); refine wpQuiet_nil ?_; clear hcl hf hne hs f X; intro w hs
    go_wp2_with fail
    go_ret
    exact ⟨rfl, by refine sb_from ?_ hs; repeat constructor⟩
  · have hE2 : (e1 == e2) = false := beq_eq_false_iff_ne.2 hE
    have HD : Hid (decide ((aDel X nx SL at2 n ⟨fg, bg, fl⟩).e = (aDel Y ny SY at2 n ⟨fg, bg, fl⟩).e) = false) := Lib.hid (decide_eq_false (by rw [he1, he2]; exact hE))
    rw [HD.out]
    clear he1 he2
    go_enter Try.func29, Try.ntmps29
    go_upto_region 11 with (((with_reducible refine isl ?_); first | ((with_reducible apply ldx); exact rfl; exact rfl; exact rfl; (exact hs.b0); exact rfl; kernel_rfl) | ((with_reducible refine wrap hs ?_); clear hs; (generalize w.heap.size = z5); intro w hs)))
    refine region_mix (Hs := [cel z5 43 [.int .i64 4, .int .i64 at2, .int .i64 n, .int .i64 cols, .int .i32 r, .bool wide, .int .u32 fg, .int .u32 bg, .int .u16 fl]]) [([0, 1, 2, 3, 4, 5, 6, 8, 9, 10, 11, 12, 13, 14], [7]), ([], [15])] [16, 17] hs (fun _ h => by (refine sb_from ?_ h; repeat constructor)) (by kernel_rfl) (by kernel_rfl) (fun _ _ _ _ _ h => h) ?_
    simp only [segs, nths, nth, List.append_nil, List.nil_append, List.cons_append, List.map_cons, List.map_nil]
    refine seg_reads (fun _ h => by (refine sb_from ?_ h; repeat constructor)) ?_; intro X f hne hf hcl; (try simp only [Act.put, List.setIfInBounds_toArray, List.set_cons_succ, List.set_cons_zero]); (repeat ((first | ((with_reducible apply ldsq (cs := [.int .u32 fg, .int .u32 bg, .int .u16 fl]) 3 (fun x => (hf x).b0)); exact rfl; exact rfl; exact rfl; exact row33; exact rfl; exact rfl) | ((with_reducible apply ldqx); exact rfl; exact rfl; exact rfl; exact fun x => (hf x).b0; exact rfl; kernel_rfl) | go_big_quiet_step (fail)); (try simp only [Act.put, List.setIfInBounds_toArray, List.set_cons_succ, List.set_cons_zero]))); refine wpQuiet_nil ?_; clear hcl hf hne hs f X; intro w hs
    go_wp2_with ((go_at_call 17; refine (pDel (t := at2) (q := n) (a := ⟨fg, bg, fl⟩) hX HB.out.1 HB.out.2.2.1 (by (apply sk_from (hs := hs); repeat constructor))).mono ?_; clear hs; rintro e w ⟨rfl, hs⟩; rw [HE1.out]))
    (refine seg_on (Hs' := [cel z5 43 [.int .i64 4, .int .i64 at2, .int .i64 n, .int .i64 cols, .int .i32 r, .bool wide, .int .u32 fg, .int .u32 bg, .int .u16 fl]]) hs (fun _ h => by (refine sb_from ?_ h; repeat constructor)) ?_ ?_)
    · exact fun _ h => by (refine sb_from ?_ h; repeat constructor)
    clear hs; intro hs
    refine seg_reads (fun _ h => by (refine sb_from ?_ h; repeat constructor)) ?_; intro X f hne hf hcl; (try simp only [Act.put, List.setIfInBounds_toArray, List.set_cons_succ, List.set_cons_zero]); (repeat ((fail); (try simp only [Act.put, List.setIfInBounds_toArray, List.set_cons_succ, List.set_cons_zero]))); refine wpQuiet_nil ?_; clear hcl hf hne hs f X; intro w hs
    go_wp2_with ((go_at_call 53; refine (dDel (t := at2) (q := n) (a := ⟨fg, bg, fl⟩) hY HB.out.2.1 HB.out.2.2.2 (by (apply sk_from (hs := hs); repeat constructor))).mono ?_; clear hs; rintro e w ⟨rfl, hs⟩; rw [HE2.out]))
    (refine seg_on (Hs' := [cel z5 43 [.int .i64 4, .int .i64 at2, .int .i64 n, .int .i64 cols, .int .i32 r, .bool wide, .int .u32 fg, .int .u32 bg, .int .u16 fl]]) hs (fun _ h => by (refine sb_from ?_ h; repeat constructor)) ?_ ?_)
    · exact fun _ h => by (refine sb_from ?_ h; repeat constructor)
    clear hs; intro hs
    refine seg_last (fun _ h => by (refine sb_from ?_ h; repeat constructor)) ?_; intro X f hne hf hcl; (try simp only [Act.put, List.setIfInBounds_toArray, List.set_cons_succ, List.set_cons_zero]); (repeat ((go_big_quiet_step (fail)); (try simp only [Act.put, List.setIfInBounds_toArray, List.set_cons_succ, List.set_cons_zero]))); refine wpQuiet_nil ?_; clear hcl hf hne hs f X; intro w hs
    go_wp2_with fail
    go_ret
    exact ⟨rfl, by refine sb_from ?_ hs; repeat constructor⟩
set_option maxRecDepth 20000 in
theorem do29_5 {o : Op} (hk : o.kind = 5) (hX : Inv most X nx SL) (hY : Inv mo Y ny SY) (nb : nx + 512 ≤ 1000000) (mb : ny + 512 ≤ 1000000) (hmo : most ≤ 10000) (hmo2 : mo ≤ 10000) (hs : sat W (scP b s X :: stP s most nx SL :: dcP d v Y :: dsP v ny mo SY :: H) w) :
    Calls Try.prog 29 #[.pointer (some ⟨b, 0, none⟩), .pointer (some ⟨d, 0, none⟩), .agg #[.int .i64 o.kind, .int .i64 o.at2, .int .i64 o.n, .int .i64 o.cols, .int .i32 o.r, .bool o.wide, .int .u32 o.a.fg, .int .u32 o.a.bg, .int .u16 o.a.fl]] w fun e w' => e = .returned (.bool (decide ((aSet X nx SL o.at2 o.n).e = (aSet Y ny SY o.at2 o.n).e))) ∧ sat W (scP b s (aSet X nx SL o.at2 o.n).x :: stP s most (aSet X nx SL o.at2 o.n).nx (aSet X nx SL o.at2 o.n).sl :: dcP d v (aSet Y ny SY o.at2 o.n).x :: dsP v (aSet Y ny SY o.at2 o.n).nx mo (aSet Y ny SY o.at2 o.n).sl :: H) w' := by
  obtain ⟨kind, at2, n, cols, r, wide, ⟨fg, bg, fl⟩⟩ := o
  dsimp only at hk ⊢
  have HB := Lib.hid (And.intro nb (And.intro mb (And.intro hmo hmo2)))
  clear nb mb hmo hmo2
  subst hk
  obtain ⟨e1, he1⟩ : ∃ e, (aSet X nx SL at2 n).e = e := ⟨_, rfl⟩
  obtain ⟨e2, he2⟩ : ∃ e, (aSet Y ny SY at2 n).e = e := ⟨_, rfl⟩
  have HE1 := Lib.hid he1
  have HE2 := Lib.hid he2
  by_cases hE : e1 = e2
  · subst hE
    have HD : Hid (decide ((aSet X nx SL at2 n).e = (aSet Y ny SY at2 n).e) = true) := Lib.hid (decide_eq_true (he1.trans he2.symm))
    rw [HD.out]
    clear he1 he2
    go_enter Try.func29, Try.ntmps29
    go_upto_region 13 with (((with_reducible refine isl ?_); first | ((with_reducible apply ldx); exact rfl; exact rfl; exact rfl; (exact hs.b0); exact rfl; kernel_rfl) | ((with_reducible refine wrap hs ?_); clear hs; (generalize w.heap.size = z5); intro w hs)))
    refine region_mix (Hs := [cel z5 43 [.int .i64 5, .int .i64 at2, .int .i64 n, .int .i64 cols, .int .i32 r, .bool wide, .int .u32 fg, .int .u32 bg, .int .u16 fl]]) [([0, 1, 2, 3, 4, 6, 7, 8, 9, 10], [5]), ([], [11])] [12, 13] hs (fun _ h => by (refine sb_from ?_ h; repeat constructor)) (by kernel_rfl) (by kernel_rfl) (fun _ _ _ _ _ h => h) ?_
    simp only [segs, nths, nth, List.append_nil, List.nil_append, List.cons_append, List.map_cons, List.map_nil]
    refine seg_reads (fun _ h => by (refine sb_from ?_ h; repeat constructor)) ?_; intro X f hne hf hcl; (try simp only [Act.put, List.setIfInBounds_toArray, List.set_cons_succ, List.set_cons_zero]); (repeat ((first | ((with_reducible apply ldqx); exact rfl; exact rfl; exact rfl; exact fun x => (hf x).b0; exact rfl; kernel_rfl) | go_big_quiet_step (fail)); (try simp only [Act.put, List.setIfInBounds_toArray, List.set_cons_succ, List.set_cons_zero]))); refine wpQuiet_nil ?_; clear hcl hf hne hs f X; intro w hs
    go_wp2_with ((go_at_call 9; refine (pSet (t := at2) (q := n) hX HB.out.1 HB.out.2.2.1 (by (apply sk_from (hs := hs); repeat constructor))).mono ?_; clear hs; rintro e w ⟨rfl, hs⟩; rw [HE1.out]))
    (refine seg_on (Hs' := [cel z5 43 [.int .i64 5, .int .i64 at2, .int .i64 n, .int .i64 cols, .int .i32 r, .bool wide, .int .u32 fg, .int .u32 bg, .int .u16 fl]]) hs (fun _ h => by (refine sb_from ?_ h; repeat constructor)) ?_ ?_)
    · exact fun _ h => by (refine sb_from ?_ h; repeat constructor)
    clear hs; intro hs
    refine seg_reads (fun _ h => by (refine sb_from ?_ h; repeat constructor)) ?_; intro X f hne hf hcl; (try simp only [Act.put, List.setIfInBounds_toArray, List.set_cons_succ, List.set_cons_zero]); (repeat ((fail); (try simp only [Act.put, List.setIfInBounds_toArray, List.set_cons_succ, List.set_cons_zero]))); refine wpQuiet_nil ?_; clear hcl hf hne hs f X; intro w hs
    go_wp2_with ((go_at_call 54; refine (dSet (t := at2) (q := n) hY HB.out.2.1 HB.out.2.2.2 (by (apply sk_from (hs := hs); repeat constructor))).mono ?_; clear hs; rintro e w ⟨rfl, hs⟩; rw [HE2.out]))
    (refine seg_on (Hs' := [cel z5 43 [.int .i64 5, .int .i64 at2, .int .i64 n, .int .i64 cols, .int .i32 r, .bool wide, .int .u32 fg, .int .u32 bg, .int .u16 fl]]) hs (fun _ h => by (refine sb_from ?_ h; repeat constructor)) ?_ ?_)
    · exact fun _ h => by (refine sb_from ?_ h; repeat constructor)
    clear hs; intro hs
    refine seg_last (fun _ h => by (refine sb_from ?_ h; repeat constructor)) ?_; intro X f hne hf hcl; (try simp only [Act.put, List.setIfInBounds_toArray, List.set_cons_succ, List.set_cons_zero]); (repeat ((go_big_quiet_step (fail)); (try simp only [Act.put, List.setIfInBounds_toArray, List.set_cons_succ, List.set_cons_zero]))); refine wpQuiet_nil ?_; clear hcl hf hne hs f X; intro w hs
    go_wp2_with fail
    go_ret
    exact ⟨rfl, by refine sb_from ?_ hs; repeat constructor⟩
  · have hE2 : (e1 == e2) = false := beq_eq_false_iff_ne.2 hE
    have HD : Hid (decide ((aSet X nx SL at2 n).e = (aSet Y ny SY at2 n).e) = false) := Lib.hid (decide_eq_false (by rw [he1, he2]; exact hE))
    rw [HD.out]
    clear he1 he2
    go_enter Try.func29, Try.ntmps29
    go_upto_region 13 with (((with_reducible refine isl ?_); first | ((with_reducible apply ldx); exact rfl; exact rfl; exact rfl; (exact hs.b0); exact rfl; kernel_rfl) | ((with_reducible refine wrap hs ?_); clear hs; (generalize w.heap.size = z5); intro w hs)))
    refine region_mix (Hs := [cel z5 43 [.int .i64 5, .int .i64 at2, .int .i64 n, .int .i64 cols, .int .i32 r, .bool wide, .int .u32 fg, .int .u32 bg, .int .u16 fl]]) [([0, 1, 2, 3, 4, 6, 7, 8, 9, 10], [5]), ([], [11])] [12, 13] hs (fun _ h => by (refine sb_from ?_ h; repeat constructor)) (by kernel_rfl) (by kernel_rfl) (fun _ _ _ _ _ h => h) ?_
    simp only [segs, nths, nth, List.append_nil, List.nil_append, List.cons_append, List.map_cons, List.map_nil]
    refine seg_reads (fun _ h => by (refine sb_from ?_ h; repeat constructor)) ?_; intro X f hne hf hcl; (try simp only [Act.put, List.setIfInBounds_toArray, List.set_cons_succ, List.set_cons_zero]); (repeat ((first | ((with_reducible apply ldqx); exact rfl; exact rfl; exact rfl; exact fun x => (hf x).b0; exact rfl; kernel_rfl) | go_big_quiet_step (fail)); (try simp only [Act.put, List.setIfInBounds_toArray, List.set_cons_succ, List.set_cons_zero]))); refine wpQuiet_nil ?_; clear hcl hf hne hs f X; intro w hs
    go_wp2_with ((go_at_call 9; refine (pSet (t := at2) (q := n) hX HB.out.1 HB.out.2.2.1 (by (apply sk_from (hs := hs); repeat constructor))).mono ?_; clear hs; rintro e w ⟨rfl, hs⟩; rw [HE1.out]))
    (refine seg_on (Hs' := [cel z5 43 [.int .i64 5, .int .i64 at2, .int .i64 n, .int .i64 cols, .int .i32 r, .bool wide, .int .u32 fg, .int .u32 bg, .int .u16 fl]]) hs (fun _ h => by (refine sb_from ?_ h; repeat constructor)) ?_ ?_)
    · exact fun _ h => by (refine sb_from ?_ h; repeat constructor)
    clear hs; intro hs
    refine seg_reads (fun _ h => by (refine sb_from ?_ h; repeat constructor)) ?_; intro X f hne hf hcl; (try simp only [Act.put, List.setIfInBounds_toArray, List.set_cons_succ, List.set_cons_zero]); (repeat ((fail); (try simp only [Act.put, List.setIfInBounds_toArray, List.set_cons_succ, List.set_cons_zero]))); refine wpQuiet_nil ?_; clear hcl hf hne hs f X; intro w hs
    go_wp2_with ((go_at_call 54; refine (dSet (t := at2) (q := n) hY HB.out.2.1 HB.out.2.2.2 (by (apply sk_from (hs := hs); repeat constructor))).mono ?_; clear hs; rintro e w ⟨rfl, hs⟩; rw [HE2.out]))
    (refine seg_on (Hs' := [cel z5 43 [.int .i64 5, .int .i64 at2, .int .i64 n, .int .i64 cols, .int .i32 r, .bool wide, .int .u32 fg, .int .u32 bg, .int .u16 fl]]) hs (fun _ h => by (refine sb_from ?_ h; repeat constructor)) ?_ ?_)
    · exact fun _ h => by (refine sb_from ?_ h; repeat constructor)
    clear hs; intro hs
    refine seg_last (fun _ h => by (refine sb_from ?_ h; repeat constructor)) ?_; intro X f hne hf hcl; (try simp only [Act.put, List.setIfInBounds_toArray, List.set_cons_succ, List.set_cons_zero]); (repeat ((go_big_quiet_step (fail)); (try simp only [Act.put, List.setIfInBounds_toArray, List.set_cons_succ, List.set_cons_zero]))); refine wpQuiet_nil ?_; clear hcl hf hne hs f X; intro w hs
    go_wp2_with fail
    go_ret
    exact ⟨rfl, by refine sb_from ?_ hs; repeat constructor⟩
set_option maxRecDepth 20000 in
theorem do29_6 {o : Op} (hk : o.kind = 6) (hX : Inv most X nx SL) (nb : nx + 512 ≤ 1000000) (hmo : most ≤ 10000) (hs : sat W (scP b s X :: stP s most nx SL :: dcP d v X :: dsP v nx most SL :: H) w) :
    Calls Try.prog 29 #[.pointer (some ⟨b, 0, none⟩), .pointer (some ⟨d, 0, none⟩), .agg #[.int .i64 o.kind, .int .i64 o.at2, .int .i64 o.n, .int .i64 o.cols, .int .i32 o.r, .bool o.wide, .int .u32 o.a.fg, .int .u32 o.a.bg, .int .u16 o.a.fl]] w fun e w' => e = .returned (.bool true) ∧ sat W (scP b s (aRes most X nx SL o.n o.cols o.at2).x :: stP s most (aRes most X nx SL o.n o.cols o.at2).nx (aRes most X nx SL o.n o.cols o.at2).sl :: dcP d v (aRes most X nx SL o.n o.cols o.at2).x :: dsP v (aRes most X nx SL o.n o.cols o.at2).nx most (aRes most X nx SL o.n o.cols o.at2).sl :: H) w' := by
  obtain ⟨kind, at2, n, cols, r, wide, ⟨fg, bg, fl⟩⟩ := o
  dsimp only at hk ⊢
  have HB := Lib.hid (And.intro nb hmo)
  clear nb hmo
  subst hk
  obtain ⟨e1, he1⟩ : ∃ e, (aRes most X nx SL n cols at2).e = e := ⟨_, rfl⟩
  obtain ⟨r1, hr1⟩ : ∃ e, (aRes most X nx SL n cols at2).r = e := ⟨_, rfl⟩
  have HE1 := Lib.hid he1
  have HR1 := Lib.hid hr1
  clear he1 hr1
  go_enter Try.func29, Try.ntmps29
  go_wp2_with (first | (go_at_call 19; refine (pRes (rows := n) (cols2 := cols) (y := at2) hX HB.out.1 HB.out.2 (by (apply sk_from (hs := hs); repeat constructor))).mono ?_; clear hs; rintro e w ⟨rfl, hs⟩; rw [HE1.out, HR1.out]) | (go_at_call 55; refine (dRes (rows := n) (cols2 := cols) (y := at2) hX HB.out.1 HB.out.2 (by (apply sk_from (hs := hs); repeat constructor))).mono ?_; clear hs; rintro e w ⟨rfl, hs⟩; rw [HE1.out, HR1.out]) | ((with_reducible refine isl ?_); first | ((with_reducible apply ldx); exact rfl; exact rfl; exact rfl; (first | exact hs.b0 | exact hs.b2); exact rfl; kernel_rfl) | ((with_reducible refine wrap hs ?_); clear hs; (generalize w.heap.size = z5); intro w hs)))
  go_ret
  exact ⟨rfl, by refine sb_from ?_ hs; repeat constructor⟩
set_option maxRecDepth 20000 in
theorem do29_x {o : Op} (hk : o.kind ≠ 1 ∧ o.kind ≠ 2 ∧ o.kind ≠ 3 ∧ o.kind ≠ 4 ∧ o.kind ≠ 5 ∧ o.kind ≠ 6 ∧ o.kind ≠ 7) (hs : sat W H w) :
    Calls Try.prog 29 #[.pointer (some ⟨b, 0, none⟩), .pointer (some ⟨d, 0, none⟩), .agg #[.int .i64 o.kind, .int .i64 o.at2, .int .i64 o.n, .int .i64 o.cols, .int .i32 o.r, .bool o.wide, .int .u32 o.a.fg, .int .u32 o.a.bg, .int .u16 o.a.fl]] w fun e w' => e = .returned (.bool true) ∧ sat W H w' := by
  obtain ⟨kind, at2, n, cols, r, wide, ⟨fg, bg, fl⟩⟩ := o
  dsimp only at hk ⊢
  obtain ⟨k1, k2, k3, k4, k5, k6, k7⟩ := hk
  have e1 : (kind == 1) = false := beq_eq_false_iff_ne.2 k1
  have d1 : decide (kind = 1) = false := decide_eq_false k1
  have e2 : (kind == 2) = false := beq_eq_false_iff_ne.2 k2
  have d2 : decide (kind = 2) = false := decide_eq_false k2
  have e3 : (kind == 3) = false := beq_eq_false_iff_ne.2 k3
  have d3 : decide (kind = 3) = false := decide_eq_false k3
  have e4 : (kind == 4) = false := beq_eq_false_iff_ne.2 k4
  have d4 : decide (kind = 4) = false := decide_eq_false k4
  have e5 : (kind == 5) = false := beq_eq_false_iff_ne.2 k5
  have d5 : decide (kind = 5) = false := decide_eq_false k5
  have e6 : (kind == 6) = false := beq_eq_false_iff_ne.2 k6
  have d6 : decide (kind = 6) = false := decide_eq_false k6
  have e7 : (kind == 7) = false := beq_eq_false_iff_ne.2 k7
  have d7 : decide (kind = 7) = false := decide_eq_false k7
  go_enter Try.func29, Try.ntmps29
  go_wp2_with (((with_reducible refine isl ?_); first | ((with_reducible apply ldx); exact rfl; exact rfl; exact rfl; exact hs.b0; exact rfl; kernel_rfl) | ((with_reducible refine wrap hs ?_); clear hs; (generalize w.heap.size = z5); intro w hs)))
  go_ret
  exact ⟨rfl, hs.drop⟩
theorem putG_two {l : List C} (h : Ok l) (k x : Int) (wide : Bool) (a : At) : ∃ pe : List C × Int, putG l k x wide a = pe ∧ putR l k x wide a = pe := ⟨_, rfl, (put_eq h k x wide a).1.symm⟩
set_option maxRecDepth 20000 in
theorem do29_7_out {o : Op} (hk : o.kind = 7) (hX : Inv most X nx SL) (nb : nx + 512 ≤ 1000000) (hmo : most ≤ 10000) (hc : o.at2 < 0 ∨ (X.L.length : Int) ≤ o.at2) (hs : sat W (scP b s X :: stP s most nx SL :: dcP d v X :: dsP v nx most SL :: H) w) :
    Calls Try.prog 29 #[.pointer (some ⟨b, 0, none⟩), .pointer (some ⟨d, 0, none⟩), .agg #[.int .i64 o.kind, .int .i64 o.at2, .int .i64 o.n, .int .i64 o.cols, .int .i32 o.r, .bool o.wide, .int .u32 o.a.fg, .int .u32 o.a.bg, .int .u16 o.a.fl]] w fun e w' => e = .returned (.bool true) ∧ sat W (scP b s X :: stP s most nx SL :: dcP d v X :: dsP v nx most SL :: H) w' := by
  obtain ⟨kind, at2, n, cols, r, wide, ⟨fg, bg, fl⟩⟩ := o
  dsimp only at hk hc ⊢
  have HB := Lib.hid (And.intro nb hmo)
  clear nb hmo
  subst hk
  have n0 := hX.n0
  have n5 := hX.n5
  obtain ⟨keeps, cc, top, bot, L⟩ := X
  dsimp only at n0 n5 hc
  obtain ⟨N, hN⟩ : ∃ N, L.length = N := ⟨_, rfl⟩
  rw [hN] at n0 n5 hc
  have HN := Lib.hid hN
  obtain ⟨ps, g, p, HO, hs⟩ := sc_open' hN n0 hs
  obtain ⟨pd, a2, p2, HO2, hs⟩ := dc_open hN (by refine sb_from ?_ hs; repeat constructor : sat W (dcP d v ⟨keeps, cc, top, bot, L⟩ :: cel b 46 [.pointer (some ⟨s, 0, none⟩), .bool keeps, .int .i64 cc, .slice (some ⟨g, 0, none⟩) N p, .int .i64 top, .int .i64 bot] :: own 81 2 (.slice (some ⟨g, 0, none⟩) N p) N (lvs ps).flatten :: lrw 96 ps :: stP s most nx SL :: dsP v nx most SL :: H) w)
  obtain ⟨g2, rfl⟩ := own_ptr n0 hs.b1
  clear hN
  have HC := Lib.hid hc
  have HCL : Hid (∀ w, sat W (cel b 46 [.pointer (some ⟨s, 0, none⟩), .bool keeps, .int .i64 cc, .slice (some ⟨g, 0, none⟩) N p, .int .i64 top, .int .i64 bot] :: own 81 2 (.slice (some ⟨g, 0, none⟩) N p) N (lvs ps).flatten :: lrw 96 ps :: cel d 85 [.pointer (some ⟨v, 0, none⟩), .bool keeps, .int .i64 cc, .slice (some ⟨g2, 0, none⟩) N p2, .int .i64 top, .int .i64 bot] :: own 93 2 (.slice (some ⟨g2, 0, none⟩) N p2) N (lvs pd).flatten :: lrw 100 pd :: stP s most nx SL :: dsP v nx most SL :: H) w → sat W (scP b s ⟨keeps, cc, top, bot, L⟩ :: stP s most nx SL :: dcP d v ⟨keeps, cc, top, bot, L⟩ :: dsP v nx most SL :: H) w) := Lib.hid fun w h => by
    have h1 := sc_close HO h
    have h2 := dc_close HO2 (by refine sb_from ?_ h1; repeat constructor : sat W (cel d 85 [.pointer (some ⟨v, 0, none⟩), .bool keeps, .int .i64 cc, .slice (some ⟨g2, 0, none⟩) N p2, .int .i64 top, .int .i64 bot] :: own 93 2 (.slice (some ⟨g2, 0, none⟩) N p2) N (lvs pd).flatten :: lrw 100 pd :: scP b s ⟨keeps, cc, top, bot, L⟩ :: stP s most nx SL :: dsP v nx most SL :: H) w)
    refine sb_from ?_ h2; repeat constructor
  by_cases h1 : at2 < 0
  · have g1 : decide (at2 < 0) = true := decide_eq_true h1
    clear hc h1
    go_enter Try.func29, Try.ntmps29
    go_upto_region 19 with (((with_reducible refine isl ?_); first | ((with_reducible apply ldx); exact rfl; exact rfl; exact rfl; (exact hs.b0); exact rfl; kernel_rfl) | ((with_reducible refine wrap hs ?_); clear hs; (generalize w.heap.size = z5); intro w hs)))
    ((try simp only [Act.put, List.setIfInBounds_toArray, List.set_cons_succ, List.set_cons_zero]); refine region_sat hs (by kernel_rfl) (by kernel_rfl) ?_; intro X f hne hf hcl; (repeat ((first | ((with_reducible apply ldqx); exact rfl; exact rfl; exact rfl; (exact fun x => (hf x).b0); exact rfl; kernel_rfl) | go_big_quiet_step (fail)); (try simp only [Act.put, List.setIfInBounds_toArray, List.set_cons_succ, List.set_cons_zero]))); refine wpQuiet_nil ?_; clear hcl hf hne hs f X; intro w hs)
    go_wp2_with (first | (go_at_call 23; refine (srow23_no n0 HC.out (by (apply sk_from (hs := hs); repeat constructor))).mono ?_; clear hs; rintro e w ⟨rfl, hs⟩) | ((with_reducible refine isl ?_); first | ((with_reducible apply ldx); exact rfl; exact rfl; exact rfl; (exact hs.b0); exact rfl; kernel_rfl)))
    go_ret
    exact ⟨rfl, HCL.out _ (by refine sb_from ?_ hs; repeat constructor)⟩
  · have g1 : decide (at2 < 0) = false := decide_eq_false h1
    have g3 : decide ((N : Int) ≤ at2) = true := decide_eq_true (by omega)
    clear hc h1
    go_enter Try.func29, Try.ntmps29
    go_upto_region 19 with (((with_reducible refine isl ?_); first | ((with_reducible apply ldx); exact rfl; exact rfl; exact rfl; (exact hs.b0); exact rfl; kernel_rfl) | ((with_reducible refine wrap hs ?_); clear hs; (generalize w.heap.size = z5); intro w hs)))
    ((try simp only [Act.put, List.setIfInBounds_toArray, List.set_cons_succ, List.set_cons_zero]); refine region_sat hs (by kernel_rfl) (by kernel_rfl) ?_; intro X f hne hf hcl; (repeat ((first | ((with_reducible apply ldqx); exact rfl; exact rfl; exact rfl; (first | exact fun x => (hf x).b0 | exact fun x => (hf x).b1); exact rfl; kernel_rfl) | go_big_quiet_step (fail)); (try simp only [Act.put, List.setIfInBounds_toArray, List.set_cons_succ, List.set_cons_zero]))); refine wpQuiet_nil ?_; clear hcl hf hne hs f X; intro w hs)
    go_wp2_with (first | (go_at_call 23; refine (srow23_no n0 HC.out (by (apply sk_from (hs := hs); repeat constructor))).mono ?_; clear hs; rintro e w ⟨rfl, hs⟩) | ((with_reducible refine isl ?_); first | ((with_reducible apply ldx); exact rfl; exact rfl; exact rfl; (exact hs.b0); exact rfl; kernel_rfl)))
    go_ret
    exact ⟨rfl, HCL.out _ (by refine sb_from ?_ hs; repeat constructor)⟩
set_option maxRecDepth 20000 in
theorem do29_7_in {o : Op} (hk : o.kind = 7) (hX : Inv most X nx SL) (nb : nx + 512 ≤ 1000000) (hmo : most ≤ 10000) {i : Nat} {id : Int} {l : List C} (hx : X.L[i]? = some (id, l)) (hi : o.at2 = (i : Int)) (hs : sat W (scP b s X :: stP s most nx SL :: dcP d v X :: dsP v nx most SL :: H) w) :
    Calls Try.prog 29 #[.pointer (some ⟨b, 0, none⟩), .pointer (some ⟨d, 0, none⟩), .agg #[.int .i64 o.kind, .int .i64 o.at2, .int .i64 o.n, .int .i64 o.cols, .int .i32 o.r, .bool o.wide, .int .u32 o.a.fg, .int .u32 o.a.bg, .int .u16 o.a.fl]] w fun e w' => e = .returned (.bool true) ∧ sat W (scP b s { X with L := X.L.set i (id, (putG l o.cols o.r o.wide o.a).1) } :: stP s most nx SL :: dcP d v { X with L := X.L.set i (id, (putG l o.cols o.r o.wide o.a).1) } :: dsP v nx most SL :: H) w' := by
  obtain ⟨kind, at2, n, cols, r, wide, ⟨fg, bg, fl⟩⟩ := o
  dsimp only at hk hi ⊢
  have HB := Lib.hid (And.intro nb hmo)
  clear nb hmo
  subst hk
  subst hi
  have hc := (List.getElem?_eq_some_iff.1 hx).1
  have hok := hX.ok _ (List.mem_of_getElem? hx)
  have hlk := hX.lok _ (List.mem_of_getElem? hx)
  have n0 := hX.n0
  have n5 := hX.n5
  obtain ⟨keeps, cc, top, bot, L⟩ := X
  dsimp only at n0 n5 hc hx hok hlk ⊢
  obtain ⟨N, hN⟩ : ∃ N, L.length = N := ⟨_, rfl⟩
  rw [hN] at n0 n5 hc
  have HN := Lib.hid hN
  obtain ⟨ps, g, p, HO, hs⟩ := sc_open' hN n0 hs
  obtain ⟨pd, a2, p2, HO2, hs⟩ := dc_open hN (by refine sb_from ?_ hs; repeat constructor : sat W (dcP d v ⟨keeps, cc, top, bot, L⟩ :: cel b 46 [.pointer (some ⟨s, 0, none⟩), .bool keeps, .int .i64 cc, .slice (some ⟨g, 0, none⟩) N p, .int .i64 top, .int .i64 bot] :: own 81 2 (.slice (some ⟨g, 0, none⟩) N p) N (lvs ps).flatten :: lrw 96 ps :: stP s most nx SL :: dsP v nx most SL :: H) w)
  obtain ⟨g2, rfl⟩ := own_ptr n0 hs.b1
  clear hN
  obtain ⟨m0, m1, m2⟩ := hlk
  obtain ⟨pe, hpe⟩ := putG_two m2 cols r wide ⟨fg, bg, fl⟩
  obtain ⟨mm, hmm⟩ : ∃ mm, l.length = mm := ⟨_, rfl⟩
  rw [hmm] at m0 m1
  have HLL := Lib.hid hmm
  have HPE := Lib.hid hpe
  obtain ⟨⟨xid, xb, xl⟩, hp⟩ : ∃ x, ps[i]? = some x := ⟨_, List.getElem?_eq_getElem (by rw [HO.out.2]; exact hc)⟩
  obtain ⟨rfl, rfl⟩ : xid = id ∧ xl = l := by
    have h1 := hx
    rw [← HO.out.1, List.getElem?_map, hp] at h1
    have h2 := Option.some.inj h1
    exact ⟨congrArg Prod.fst h2, congrArg Prod.snd h2⟩
  obtain ⟨⟨yid, yb, yl⟩, hq⟩ : ∃ x, pd[i]? = some x := ⟨_, List.getElem?_eq_getElem (by rw [HO2.out.2]; exact hc)⟩
  obtain ⟨rfl, rfl⟩ : yid = xid ∧ yl = xl := by
    have h1 := hx
    rw [← HO2.out.1, List.getElem?_map, hq] at h1
    have h2 := Option.some.inj h1
    exact ⟨congrArg Prod.fst h2, congrArg Prod.snd h2⟩
  have HCI := Lib.hid hc
  have HX := Lib.hid hp
  have HQ := Lib.hid hq
  have HX1 := Lib.hid (lvs_at hq).2
  have g1 : decide ((i : Int) < 0) = false := decide_eq_false (by omega)
  have g3 : decide ((N : Int) ≤ (i : Int)) = false := decide_eq_false (by omega)
  have g5 : ¬ (N : Int) ≤ (i : Int) := by omega
  have hs1 := lrw_at hp (by refine sb_from ?_ hs; repeat constructor : sat W (lrw 96 ps :: cel d 85 [.pointer (some ⟨v, 0, none⟩), .bool keeps, .int .i64 cc, .slice (some ⟨g2, 0, none⟩) N p2, .int .i64 top, .int .i64 bot] :: own 93 2 (.slice (some ⟨g2, 0, none⟩) N p2) N (lvs pd).flatten :: lrw 100 pd :: cel b 46 [.pointer (some ⟨s, 0, none⟩), .bool keeps, .int .i64 cc, .slice (some ⟨g, 0, none⟩) N p, .int .i64 top, .int .i64 bot] :: own 81 2 (.slice (some ⟨g, 0, none⟩) N p) N (lvs ps).flatten :: stP s most nx SL :: dsP v nx most SL :: H) w)
  have hs2 := lrw_at hq (by refine sb_from ?_ hs1; repeat constructor : sat W (lrw 100 pd :: rwP 96 xb yl :: lrw 96 (ps.take i) :: lrw 96 (ps.drop (i + 1)) :: cel d 85 [.pointer (some ⟨v, 0, none⟩), .bool keeps, .int .i64 cc, .slice (some ⟨g2, 0, none⟩) N p2, .int .i64 top, .int .i64 bot] :: own 93 2 (.slice (some ⟨g2, 0, none⟩) N p2) N (lvs pd).flatten :: cel b 46 [.pointer (some ⟨s, 0, none⟩), .bool keeps, .int .i64 cc, .slice (some ⟨g, 0, none⟩) N p, .int .i64 top, .int .i64 bot] :: own 81 2 (.slice (some ⟨g, 0, none⟩) N p) N (lvs ps).flatten :: stP s most nx SL :: dsP v nx most SL :: H) w)
  clear hs hs1
  have hs : sat W (cel b 46 [.pointer (some ⟨s, 0, none⟩), .bool keeps, .int .i64 cc, .slice (some ⟨g, 0, none⟩) N p, .int .i64 top, .int .i64 bot] :: own 81 2 (.slice (some ⟨g, 0, none⟩) N p) N (lvs ps).flatten :: rwP 96 xb yl :: lrw 96 (ps.take i) :: lrw 96 (ps.drop (i + 1)) :: cel d 85 [.pointer (some ⟨v, 0, none⟩), .bool keeps, .int .i64 cc, .slice (some ⟨g2, 0, none⟩) N p2, .int .i64 top, .int .i64 bot] :: own 93 2 (.slice (some ⟨g2, 0, none⟩) N p2) N (lvs pd).flatten :: rwP 100 yb yl :: lrw 100 (pd.take i) :: lrw 100 (pd.drop (i + 1)) :: stP s most nx SL :: dsP v nx most SL :: H) w := by refine sb_from ?_ hs2; repeat constructor
  have HCL : Hid (∀ (w : World) (l2 : List C), sat W (rwP 96 xb l2 :: lrw 96 (ps.take i) :: lrw 96 (ps.drop (i + 1)) :: rwP 100 yb l2 :: lrw 100 (pd.take i) :: lrw 100 (pd.drop (i + 1)) :: cel b 46 [.pointer (some ⟨s, 0, none⟩), .bool keeps, .int .i64 cc, .slice (some ⟨g, 0, none⟩) N p, .int .i64 top, .int .i64 bot] :: own 81 2 (.slice (some ⟨g, 0, none⟩) N p) N (lvs ps).flatten :: cel d 85 [.pointer (some ⟨v, 0, none⟩), .bool keeps, .int .i64 cc, .slice (some ⟨g2, 0, none⟩) N p2, .int .i64 top, .int .i64 bot] :: own 93 2 (.slice (some ⟨g2, 0, none⟩) N p2) N (lvs pd).flatten :: stP s most nx SL :: dsP v nx most SL :: H) w → sat W (scP b s ⟨keeps, cc, top, bot, L.set i (yid, l2)⟩ :: stP s most nx SL :: dcP d v ⟨keeps, cc, top, bot, L.set i (yid, l2)⟩ :: dsP v nx most SL :: H) w) := Lib.hid fun w l2 h => by
    have h1 := lrw_put (l := ps) (y := ⟨yid, xb, l2⟩) (List.getElem?_eq_some_iff.1 HX.out).1 h
    have h2 := lrw_put (l := pd) (y := ⟨yid, yb, l2⟩) (List.getElem?_eq_some_iff.1 HQ.out).1 (by refine sb_from ?_ h1; repeat constructor : sat W (rwP 100 yb l2 :: lrw 100 (pd.take i) :: lrw 100 (pd.drop (i + 1)) :: lrw 96 (ps.set i ⟨yid, xb, l2⟩) :: cel b 46 [.pointer (some ⟨s, 0, none⟩), .bool keeps, .int .i64 cc, .slice (some ⟨g, 0, none⟩) N p, .int .i64 top, .int .i64 bot] :: own 81 2 (.slice (some ⟨g, 0, none⟩) N p) N (lvs ps).flatten :: cel d 85 [.pointer (some ⟨v, 0, none⟩), .bool keeps, .int .i64 cc, .slice (some ⟨g2, 0, none⟩) N p2, .int .i64 top, .int .i64 bot] :: own 93 2 (.slice (some ⟨g2, 0, none⟩) N p2) N (lvs pd).flatten :: stP s most nx SL :: dsP v nx most SL :: H) w)
    have e1 : lvs ps = lvs (ps.set i ⟨yid, xb, l2⟩) := by
      rw [← lvs_set]
      exact (set_same (lvs_get HX.out)).symm
    have e2 : lvs pd = lvs (pd.set i ⟨yid, yb, l2⟩) := by
      rw [← lvs_set]
      exact (set_same (lvs_get HQ.out)).symm
    rw [e1, e2] at h2
    have h3 := sc_close (H := dcP d v ⟨keeps, cc, top, bot, L.set i (yid, l2)⟩ :: stP s most nx SL :: dsP v nx most SL :: H) (L := L.set i (yid, l2)) (ps := ps.set i ⟨yid, xb, l2⟩) (Lib.hid ⟨by rw [List.map_set, HO.out.1], by rw [List.length_set, HO.out.2]⟩) (by
      have h4 := dc_close (L := L.set i (yid, l2)) (ps := pd.set i ⟨yid, yb, l2⟩) (Lib.hid ⟨by rw [List.map_set, HO2.out.1], by rw [List.length_set, HO2.out.2]⟩) (by refine sb_from ?_ h2; repeat constructor : sat W (cel d 85 [.pointer (some ⟨v, 0, none⟩), .bool keeps, .int .i64 cc, .slice (some ⟨g2, 0, none⟩) N p2, .int .i64 top, .int .i64 bot] :: own 93 2 (.slice (some ⟨g2, 0, none⟩) N p2) N (lvs (pd.set i ⟨yid, yb, l2⟩)).flatten :: lrw 100 (pd.set i ⟨yid, yb, l2⟩) :: cel b 46 [.pointer (some ⟨s, 0, none⟩), .bool keeps, .int .i64 cc, .slice (some ⟨g, 0, none⟩) N p, .int .i64 top, .int .i64 bot] :: own 81 2 (.slice (some ⟨g, 0, none⟩) N p) N (lvs (ps.set i ⟨yid, xb, l2⟩)).flatten :: lrw 96 (ps.set i ⟨yid, xb, l2⟩) :: stP s most nx SL :: dsP v nx most SL :: H) w)
      refine sb_from ?_ h4; repeat constructor : sat W (cel b 46 [.pointer (some ⟨s, 0, none⟩), .bool keeps, .int .i64 cc, .slice (some ⟨g, 0, none⟩) N p, .int .i64 top, .int .i64 bot] :: own 81 2 (.slice (some ⟨g, 0, none⟩) N p) N (lvs (ps.set i ⟨yid, xb, l2⟩)).flatten :: lrw 96 (ps.set i ⟨yid, xb, l2⟩) :: dcP d v ⟨keeps, cc, top, bot, L.set i (yid, l2)⟩ :: stP s most nx SL :: dsP v nx most SL :: H) w)
    refine sb_from ?_ h3; repeat constructor
  clear hs2 hx hp hq hmm m2 hok hpe hc HO HO2 hX
  go_enter Try.func29, Try.ntmps29
  go_upto_region 19 with (((with_reducible refine isl ?_); first | ((with_reducible apply ldx); exact rfl; exact rfl; exact rfl; (exact hs.b0); exact rfl; kernel_rfl) | ((with_reducible refine wrap hs ?_); clear hs; (generalize w.heap.size = z5); intro w hs)))
  ((try simp only [Act.put, List.setIfInBounds_toArray, List.set_cons_succ, List.set_cons_zero]); refine region_sat hs (by kernel_rfl) (by kernel_rfl) ?_; intro X f hne hf hcl; (repeat ((first | ((with_reducible apply ldqx); exact rfl; exact rfl; exact rfl; (first | exact fun x => (hf x).b0 | exact fun x => (hf x).b6); exact rfl; kernel_rfl) | go_big_quiet_step (fail)); (try simp only [Act.put, List.setIfInBounds_toArray, List.set_cons_succ, List.set_cons_zero]))); refine wpQuiet_nil ?_; clear hcl hf hne hs f X; intro w hs)
  go_upto_region 21 with fail
  refine region_mix [([0, 1, 2, 4, 5, 6, 7, 8, 9, 10, 11, 13, 14, 15, 16, 17, 18, 19, 20, 21, 22, 23, 24, 25, 26, 27, 28, 29], [3]), ([], [12]), ([], [30])] [31, 32] hs (fun _ h => by (show sat W [cel d 85 [.pointer (some ⟨v, 0, none⟩), .bool keeps, .int .i64 cc, .slice (some ⟨g2, 0, none⟩) N p2, .int .i64 top, .int .i64 bot], own 93 2 (.slice (some ⟨g2, 0, none⟩) N p2) N (lvs pd).flatten, cel z5 43 [.int .i64 7, .int .i64 (i : Int), .int .i64 n, .int .i64 cols, .int .i32 r, .bool wide, .int .u32 fg, .int .u32 bg, .int .u16 fl]] _; refine sb_from ?_ h; repeat constructor)) (by kernel_rfl) (by kernel_rfl) (fun _ _ _ _ _ h => h) ?_
  simp only [segs, nths, nth, List.append_nil, List.nil_append, List.cons_append, List.map_cons, List.map_nil]
  refine seg_reads (fun _ h => by (show sat W [cel d 85 [.pointer (some ⟨v, 0, none⟩), .bool keeps, .int .i64 cc, .slice (some ⟨g2, 0, none⟩) N p2, .int .i64 top, .int .i64 bot], own 93 2 (.slice (some ⟨g2, 0, none⟩) N p2) N (lvs pd).flatten, cel z5 43 [.int .i64 7, .int .i64 (i : Int), .int .i64 n, .int .i64 cols, .int .i32 r, .bool wide, .int .u32 fg, .int .u32 bg, .int .u16 fl]] _; refine sb_from ?_ h; repeat constructor)) ?_; intro X f hne hf hcl; (try simp only [Act.put, List.setIfInBounds_toArray, List.set_cons_succ, List.set_cons_zero]); (repeat ((first | ((with_reducible apply ldsq (cs := [.int .u32 fg, .int .u32 bg, .int .u16 fl]) 3 (fun x => (hf x).b2)); exact rfl; exact rfl; exact rfl; exact row33; exact rfl; exact rfl) | ((with_reducible apply ldoq (fun x => (hf x).b1)); exact rfl; exact rfl; exact rfl; exact HX1.out; exact one91) | ((with_reducible apply ldqx); exact rfl; exact rfl; exact rfl; (first | exact fun x => (hf x).b0 | exact fun x => (hf x).b2); exact rfl; kernel_rfl) | go_big_quiet_step (fail)); (try simp only [Act.put, List.setIfInBounds_toArray, List.set_cons_succ, List.set_cons_zero]))); refine wpQuiet_nil ?_; clear hcl hf hne hs f X; intro w hs
  go_wp2_with ((go_at_call 23; refine (srow23 HX.out HCI.out (by (apply sk_from (hs := hs); repeat constructor))).mono ?_; clear hs; rintro e w ⟨rfl, hs⟩))
  (refine seg_on hs (fun _ h => h) ?_ ?_)
  · exact fun _ h => by (show sat W [cel d 85 [.pointer (some ⟨v, 0, none⟩), .bool keeps, .int .i64 cc, .slice (some ⟨g2, 0, none⟩) N p2, .int .i64 top, .int .i64 bot], own 93 2 (.slice (some ⟨g2, 0, none⟩) N p2) N (lvs pd).flatten, cel z5 43 [.int .i64 7, .int .i64 (i : Int), .int .i64 n, .int .i64 cols, .int .i32 r, .bool wide, .int .u32 fg, .int .u32 bg, .int .u16 fl]] _; refine sb_from ?_ h; repeat constructor)
  clear hs; intro hs
  refine seg_reads (fun _ h => by (show sat W [cel d 85 [.pointer (some ⟨v, 0, none⟩), .bool keeps, .int .i64 cc, .slice (some ⟨g2, 0, none⟩) N p2, .int .i64 top, .int .i64 bot], own 93 2 (.slice (some ⟨g2, 0, none⟩) N p2) N (lvs pd).flatten, cel z5 43 [.int .i64 7, .int .i64 (i : Int), .int .i64 n, .int .i64 cols, .int .i32 r, .bool wide, .int .u32 fg, .int .u32 bg, .int .u16 fl]] _; refine sb_from ?_ h; repeat constructor)) ?_; intro X f hne hf hcl; (try simp only [Act.put, List.setIfInBounds_toArray, List.set_cons_succ, List.set_cons_zero]); (repeat ((fail); (try simp only [Act.put, List.setIfInBounds_toArray, List.set_cons_succ, List.set_cons_zero]))); refine wpQuiet_nil ?_; clear hcl hf hne hs f X; intro w hs
  go_wp2_with ((go_at_call 56; refine (put22 (k := cols) (x := r) (wide := wide) (at_ := ⟨fg, bg, fl⟩) HLL.out m0 (by omega) (by (apply sk_from (hs := hs); repeat constructor))).mono ?_; clear hs; rintro e w ⟨rfl, hs⟩; rw [HPE.out.1] at hs ⊢))
  (refine seg_on hs (fun _ h => h) ?_ ?_)
  · exact fun _ h => by (show sat W [cel d 85 [.pointer (some ⟨v, 0, none⟩), .bool keeps, .int .i64 cc, .slice (some ⟨g2, 0, none⟩) N p2, .int .i64 top, .int .i64 bot], own 93 2 (.slice (some ⟨g2, 0, none⟩) N p2) N (lvs pd).flatten, cel z5 43 [.int .i64 7, .int .i64 (i : Int), .int .i64 n, .int .i64 cols, .int .i32 r, .bool wide, .int .u32 fg, .int .u32 bg, .int .u16 fl]] _; refine sb_from ?_ h; repeat constructor)
  clear hs; intro hs
  refine seg_reads (fun _ h => by (show sat W [cel d 85 [.pointer (some ⟨v, 0, none⟩), .bool keeps, .int .i64 cc, .slice (some ⟨g2, 0, none⟩) N p2, .int .i64 top, .int .i64 bot], own 93 2 (.slice (some ⟨g2, 0, none⟩) N p2) N (lvs pd).flatten, cel z5 43 [.int .i64 7, .int .i64 (i : Int), .int .i64 n, .int .i64 cols, .int .i32 r, .bool wide, .int .u32 fg, .int .u32 bg, .int .u16 fl]] _; refine sb_from ?_ h; repeat constructor)) ?_; intro X f hne hf hcl; (try simp only [Act.put, List.setIfInBounds_toArray, List.set_cons_succ, List.set_cons_zero]); (repeat ((fail); (try simp only [Act.put, List.setIfInBounds_toArray, List.set_cons_succ, List.set_cons_zero]))); refine wpQuiet_nil ?_; clear hcl hf hne hs f X; intro w hs
  go_wp2_with ((go_at_call 57; refine (put33 (k := cols) (x := r) (wide := wide) (at_ := ⟨fg, bg, fl⟩) HLL.out (by omega) (by (apply sk_from (hs := hs); repeat constructor))).mono ?_; clear hs; rintro e w ⟨rfl, hs⟩; rw [HPE.out.2] at hs ⊢))
  (refine seg_on hs (fun _ h => h) ?_ ?_)
  · exact fun _ h => by (show sat W [cel d 85 [.pointer (some ⟨v, 0, none⟩), .bool keeps, .int .i64 cc, .slice (some ⟨g2, 0, none⟩) N p2, .int .i64 top, .int .i64 bot], own 93 2 (.slice (some ⟨g2, 0, none⟩) N p2) N (lvs pd).flatten, cel z5 43 [.int .i64 7, .int .i64 (i : Int), .int .i64 n, .int .i64 cols, .int .i32 r, .bool wide, .int .u32 fg, .int .u32 bg, .int .u16 fl]] _; refine sb_from ?_ h; repeat constructor)
  clear hs; intro hs
  refine seg_last (fun _ h => by (show sat W [cel d 85 [.pointer (some ⟨v, 0, none⟩), .bool keeps, .int .i64 cc, .slice (some ⟨g2, 0, none⟩) N p2, .int .i64 top, .int .i64 bot], own 93 2 (.slice (some ⟨g2, 0, none⟩) N p2) N (lvs pd).flatten, cel z5 43 [.int .i64 7, .int .i64 (i : Int), .int .i64 n, .int .i64 cols, .int .i32 r, .bool wide, .int .u32 fg, .int .u32 bg, .int .u16 fl]] _; refine sb_from ?_ h; repeat constructor)) ?_; intro X f hne hf hcl; (try simp only [Act.put, List.setIfInBounds_toArray, List.set_cons_succ, List.set_cons_zero]); (repeat ((go_big_quiet_step (fail)); (try simp only [Act.put, List.setIfInBounds_toArray, List.set_cons_succ, List.set_cons_zero]))); refine wpQuiet_nil ?_; clear hcl hf hne hs f X; intro w hs
  go_wp2_with fail
  go_ret
  refine ⟨rfl, ?_⟩
  rw [HPE.out.1]
  exact HCL.out _ _ (by refine sb_from ?_ hs; repeat constructor)
end
end Go.Proofs.Ytdcagaaanbgcoaa
