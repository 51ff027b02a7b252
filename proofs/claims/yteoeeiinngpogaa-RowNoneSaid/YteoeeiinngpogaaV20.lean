/- Law 6: an operation, by both. -/
import Derived.Test.YteoeeiinngpogaaV19
namespace Go.Proofs.Yteoeeiinngpogaa
open Go.RowKit Go.Mem Go.Cells
variable {W w : World} {H : List HProp}
structure Op where
  kind : Int
  col : Int
  n : Int
  r : Int
  wide : Bool
  a : At
abbrev opL (o : Op) : List Value := [.int .i64 o.kind, .int .i64 o.col, .int .i64 o.n, .int .i32 o.r, .bool o.wide, .int .u32 o.a.fg, .int .u32 o.a.bg, .int .u16 o.a.fl]
abbrev opV (o : Op) : Value := .agg #[.int .i64 o.kind, .int .i64 o.col, .int .i64 o.n, .int .i32 o.r, .bool o.wide, .int .u32 o.a.fg, .int .u32 o.a.bg, .int .u16 o.a.fl]
def doG (l : List C) (o : Op) : List C × Int :=
  if o.kind = 1 then putG l o.col o.r o.wide o.a
  else if o.kind = 2 then joinG l o.col o.r
  else if o.kind = 3 then (eraseG l o.col o.n o.a, 0)
  else if o.kind = 4 then (insG l o.col o.n o.a, 0)
  else if o.kind = 5 then (delG l o.col o.n o.a, 0)
  else if o.kind = 6 then (if 1 ≤ o.n ∧ o.n ≤ 512 then (resG l o.n.toNat, 0) else (l, 2))
  else (l, 0)
theorem doG_ok {l : List C} (h : Ok l) (o : Op) : Ok (doG l o).1 := by
  unfold doG
  split
  · exact (put_eq h _ _ _ _).2
  split
  · exact join_ok h _ _
  split
  · exact (erase_eq h _ _ _).2
  split
  · exact (insert_eq h _ _ _).2
  split
  · exact (delete_eq h _ _ _).2
  split
  · split
    · exact (resize_eq h _).2
    · exact h
  · exact h
theorem doG_len {l : List C} (h : Ok l) (o : Op) : (doG l o).1.length = if o.kind = 6 ∧ 1 ≤ o.n ∧ o.n ≤ 512 then o.n.toNat else l.length := by
  unfold doG
  split
  · rw [if_neg (by omega)]; exact putG_len _ _ _ _ _
  split
  · rw [if_neg (by omega)]; exact joinG_len _ _ _
  split
  · rw [if_neg (by omega)]; exact eraseR_len _ _ _ _ h
  split
  · rw [if_neg (by omega)]; exact insR_len _ _ _ _ h
  split
  · rw [if_neg (by omega)]; exact delR_len _ _ _ _ h
  split
  · split
    · rw [if_pos (by omega)]; exact resR_len _ _ h
    · rw [if_neg (by omega)]
  · rw [if_neg (by omega)]
theorem row35 : rowTy Try.prog 35 8 = true := by kernel_rfl
attribute [local irreducible] World.setCell World.setCells World.alloc World.drew World.drewN Calls sat cel own blk old wpQuiet wpList cmb cmb1 rwP cls rws wi wh fst_ World.rangeAt
theorem do10_1 {b b2 n nm : Nat} {l m : List C} {col q r fg bg fl : Int} {wide : Bool} (hn : l.length = n) (h0 : 0 < n) (h512 : n ≤ 512) (ok : Ok l) (hm : m.length = nm) (m0 : 0 < nm) (m512 : nm ≤ 512) (okm : Ok m) (hs : sat W (rwP 55 b l :: rwP 68 b2 m :: H) w) :
    Calls Try.prog 10 #[.pointer (some ⟨b, 0, none⟩), .pointer (some ⟨b2, 0, none⟩), opV ⟨1, col, q, r, wide, ⟨fg, bg, fl⟩⟩] w fun e w' => ∃ v, e = .returned (.bool v) ∧ (l = m → v = true) ∧ sat W (rwP 55 b (doG l ⟨1, col, q, r, wide, ⟨fg, bg, fl⟩⟩).1 :: rwP 68 b2 (doG m ⟨1, col, q, r, wide, ⟨fg, bg, fl⟩⟩).1 :: H) w' := by
  have HN := Lib.hid hn
  have HM := Lib.hid hm
  have h1000 : n ≤ 1000 := by omega
  have m1000 : nm ≤ 1000 := by omega
  have e1 : doG l ⟨1, col, q, r, wide, ⟨fg, bg, fl⟩⟩ = putG l col r wide ⟨fg, bg, fl⟩ := rfl
  have e2 : doG m ⟨1, col, q, r, wide, ⟨fg, bg, fl⟩⟩ = putR m col r wide ⟨fg, bg, fl⟩ := (put_eq okm col r wide ⟨fg, bg, fl⟩).1
  have e3 : Hid (l = m → (putG l col r wide ⟨fg, bg, fl⟩).2 = (putR m col r wide ⟨fg, bg, fl⟩).2) := Lib.hid (fun e => by rw [e]; exact congrArg Prod.snd e2)
  rw [e1, e2]
  obtain ⟨L, p1, hp1⟩ : ∃ L p, putG l col r wide ⟨fg, bg, fl⟩ = (L, p) := ⟨_, _, rfl⟩
  obtain ⟨M, p2, hp2⟩ : ∃ L p, putR m col r wide ⟨fg, bg, fl⟩ = (L, p) := ⟨_, _, rfl⟩
  rw [hp1, hp2] at e3 ⊢
  have HP1 := Lib.hid hp1
  have HP2 := Lib.hid hp2
  clear hn hm e1 e2 hp1 hp2 ok okm
  go_enter Try.func10, Try.ntmps10
  go_upto_region 3 with (first | ((with_reducible refine isl ?_); first | ((with_reducible apply stsw hs.b0); exact rfl; exact rfl; exact rfl; exact rfl; exact row35; exact rfl; exact rfl; exact rfl; clear hs; intro w hs) | ((with_reducible apply ld hs.b0); exact rfl; exact rfl; exact rfl; exact rfl; kernel_rfl) | ((with_reducible apply st hs.b0); exact rfl; exact rfl; exact rfl; exact rfl; exact rfl; exact rfl; kernel_rfl; exact rfl; clear hs; intro w hs) | ((with_reducible apply stc hs.b0); exact rfl; exact rfl; exact rfl; exact rfl; exact rfl; kernel_rfl; exact rfl; clear hs; intro w hs) | ((with_reducible refine wrap hs ?_); clear hs; (first | generalize w.heap.size = z5); intro w hs) | ((with_reducible refine wrap hs ?_); clear hs; intro w hs) | ((with_reducible refine wrapn hs ?_); clear hs; intro w hs) | ((with_reducible refine wrapd hs ?_); clear hs; intro w hs)))
  refine region_mix [([0, 1, 2, 3, 4, 5, 6, 7, 8, 10, 11, 12, 13, 14, 15, 16, 17, 18], [9]), ([], [19])] [20, 21] hs (fun _ h => by (show sat W [cel z5 35 (opL ⟨1, col, q, r, wide, ⟨fg, bg, fl⟩⟩)] _; refine sb_from ?_ h; repeat constructor)) (by kernel_rfl) (by kernel_rfl) (fun _ _ _ _ _ h => h) ?_
  simp only [segs, nths, nth, List.append_nil, List.nil_append, List.cons_append, List.map_cons, List.map_nil]
  refine seg_reads (fun _ h => by (show sat W [cel z5 35 (opL ⟨1, col, q, r, wide, ⟨fg, bg, fl⟩⟩)] _; refine sb_from ?_ h; repeat constructor)) ?_; intro X f hne hf hcl; (try simp only [Act.put, List.setIfInBounds_toArray, List.set_cons_succ, List.set_cons_zero]); (repeat ((first | ((with_reducible apply ldsq (cs := [.int .u32 fg, .int .u32 bg, .int .u16 fl]) 3 (fun x => (hf x).b0)); exact rfl; exact rfl; exact rfl; exact row33; exact rfl; exact rfl) | ((with_reducible apply ldq (fun x => (hf x).b0)); exact rfl; exact rfl; exact rfl; exact rfl; kernel_rfl) | ((with_reducible apply ldq (fun x => (hf x).b1)); exact rfl; exact rfl; exact rfl; exact rfl; kernel_rfl) | ((with_reducible apply ldq (fun x => (hf x).b2)); exact rfl; exact rfl; exact rfl; exact rfl; kernel_rfl) | ((with_reducible apply ldq (fun x => (hf x).b3)); exact rfl; exact rfl; exact rfl; exact rfl; kernel_rfl) | go_big_quiet_step (fail)); (try simp only [Act.put, List.setIfInBounds_toArray, List.set_cons_succ, List.set_cons_zero]))); refine wpQuiet_nil ?_; clear hcl hf hne hs f X; intro w hs
  go_wp2_with (first | (go_at_call 22; refine (put22 (at_ := ⟨fg, bg, fl⟩) HN.out h0 h1000 (by apply sk_from (hs := hs); repeat constructor)).mono ?_; clear hs; rintro e w ⟨rfl, hs⟩; rw [HP1.out] at hs ⊢) | (go_at_call 33; refine (put33 (at_ := ⟨fg, bg, fl⟩) HM.out m1000 (by apply sk_from (hs := hs); repeat constructor)).mono ?_; clear hs; rintro e w ⟨rfl, hs⟩; rw [HP2.out] at hs ⊢) | ((with_reducible refine isl ?_); first | ((with_reducible apply ld hs.b0); exact rfl; exact rfl; exact rfl; exact rfl; kernel_rfl) | ((with_reducible apply st hs.b0); exact rfl; exact rfl; exact rfl; exact rfl; exact rfl; exact rfl; kernel_rfl; exact rfl; clear hs; intro w hs) | ((with_reducible apply stc hs.b0); exact rfl; exact rfl; exact rfl; exact rfl; exact rfl; kernel_rfl; exact rfl; clear hs; intro w hs) | ((with_reducible refine wrap hs ?_); clear hs; intro w hs) | ((with_reducible refine wrapn hs ?_); clear hs; intro w hs) | ((with_reducible refine wrapd hs ?_); clear hs; intro w hs)))
  (first | refine seg_on hs (fun _ h => h) ?_ ?_ | refine seg_on hs.made (fun _ h => h) ?_ ?_ | refine seg_on hs.drew (fun _ h => h) ?_ ?_ | refine seg_on hs.drew.made (fun _ h => h) ?_ ?_ | refine seg_on (hs.drewN _) (fun _ h => h) ?_ ?_)
  · exact fun _ h => by (show sat W [cel z5 35 (opL ⟨1, col, q, r, wide, ⟨fg, bg, fl⟩⟩)] _; refine sb_from ?_ h; repeat constructor)
  clear hs; intro hs
  refine seg_reads (fun _ h => by (show sat W [cel z5 35 (opL ⟨1, col, q, r, wide, ⟨fg, bg, fl⟩⟩)] _; refine sb_from ?_ h; repeat constructor)) ?_; intro X f hne hf hcl; (try simp only [Act.put, List.setIfInBounds_toArray, List.set_cons_succ, List.set_cons_zero]); (repeat ((first | ((with_reducible apply ldsq (cs := [.int .u32 fg, .int .u32 bg, .int .u16 fl]) 3 (fun x => (hf x).b0)); exact rfl; exact rfl; exact rfl; exact row33; exact rfl; exact rfl) | ((with_reducible apply ldq (fun x => (hf x).b0)); exact rfl; exact rfl; exact rfl; exact rfl; kernel_rfl) | ((with_reducible apply ldq (fun x => (hf x).b1)); exact rfl; exact rfl; exact rfl; exact rfl; kernel_rfl) | ((with_reducible apply ldq (fun x => (hf x).b2)); exact rfl; exact rfl; exact rfl; exact rfl; kernel_rfl) | ((with_reducible apply ldq (fun x => (hf x).b3)); exact rfl; exact rfl; exact rfl; exact rfl; kernel_rfl) | go_big_quiet_step (fail)); (try simp only [Act.put, List.setIfInBounds_toArray, List.set_cons_succ, List.set_cons_zero]))); refine wpQuiet_nil ?_; clear hcl hf hne hs f X; intro w hs
  go_wp2_with (first | (go_at_call 22; refine (put22 (at_ := ⟨fg, bg, fl⟩) HN.out h0 h1000 (by apply sk_from (hs := hs); repeat constructor)).mono ?_; clear hs; rintro e w ⟨rfl, hs⟩; rw [HP1.out] at hs ⊢) | (go_at_call 33; refine (put33 (at_ := ⟨fg, bg, fl⟩) HM.out m1000 (by apply sk_from (hs := hs); repeat constructor)).mono ?_; clear hs; rintro e w ⟨rfl, hs⟩; rw [HP2.out] at hs ⊢) | ((with_reducible refine isl ?_); first | ((with_reducible apply ld hs.b0); exact rfl; exact rfl; exact rfl; exact rfl; kernel_rfl) | ((with_reducible apply st hs.b0); exact rfl; exact rfl; exact rfl; exact rfl; exact rfl; exact rfl; kernel_rfl; exact rfl; clear hs; intro w hs) | ((with_reducible apply stc hs.b0); exact rfl; exact rfl; exact rfl; exact rfl; exact rfl; kernel_rfl; exact rfl; clear hs; intro w hs) | ((with_reducible refine wrap hs ?_); clear hs; intro w hs) | ((with_reducible refine wrapn hs ?_); clear hs; intro w hs) | ((with_reducible refine wrapd hs ?_); clear hs; intro w hs)))
  (first | refine seg_on hs (fun _ h => h) ?_ ?_ | refine seg_on hs.made (fun _ h => h) ?_ ?_ | refine seg_on hs.drew (fun _ h => h) ?_ ?_ | refine seg_on hs.drew.made (fun _ h => h) ?_ ?_ | refine seg_on (hs.drewN _) (fun _ h => h) ?_ ?_)
  · exact fun _ h => by (show sat W [cel z5 35 (opL ⟨1, col, q, r, wide, ⟨fg, bg, fl⟩⟩)] _; refine sb_from ?_ h; repeat constructor)
  clear hs; intro hs
  refine seg_last (fun _ h => by (show sat W [cel z5 35 (opL ⟨1, col, q, r, wide, ⟨fg, bg, fl⟩⟩)] _; refine sb_from ?_ h; repeat constructor)) ?_; intro X f hne hf hcl; (try simp only [Act.put, List.setIfInBounds_toArray, List.set_cons_succ, List.set_cons_zero]); (repeat ((first | ((with_reducible apply ldsq (cs := [.int .u32 fg, .int .u32 bg, .int .u16 fl]) 3 (fun x => (hf x).b0)); exact rfl; exact rfl; exact rfl; exact row33; exact rfl; exact rfl) | ((with_reducible apply ldq (fun x => (hf x).b0)); exact rfl; exact rfl; exact rfl; exact rfl; kernel_rfl) | ((with_reducible apply ldq (fun x => (hf x).b1)); exact rfl; exact rfl; exact rfl; exact rfl; kernel_rfl) | ((with_reducible apply ldq (fun x => (hf x).b2)); exact rfl; exact rfl; exact rfl; exact rfl; kernel_rfl) | ((with_reducible apply ldq (fun x => (hf x).b3)); exact rfl; exact rfl; exact rfl; exact rfl; kernel_rfl) | go_big_quiet_step (fail)); (try simp only [Act.put, List.setIfInBounds_toArray, List.set_cons_succ, List.set_cons_zero]))); refine wpQuiet_nil ?_; clear hcl hf hne hs f X; intro w hs
  go_wp2_with fail
  go_ret
  exact ⟨_, rfl, fun h => by simpa using e3.out h, by refine sb_from ?_ hs; repeat constructor⟩
theorem do10_2 {b b2 n nm : Nat} {l m : List C} {col q r fg bg fl : Int} {wide : Bool} (hn : l.length = n) (h0 : 0 < n) (h512 : n ≤ 512) (ok : Ok l) (hm : m.length = nm) (m0 : 0 < nm) (m512 : nm ≤ 512) (okm : Ok m) (hs : sat W (rwP 55 b l :: rwP 68 b2 m :: H) w) :
    Calls Try.prog 10 #[.pointer (some ⟨b, 0, none⟩), .pointer (some ⟨b2, 0, none⟩), opV ⟨2, col, q, r, wide, ⟨fg, bg, fl⟩⟩] w fun e w' => ∃ v, e = .returned (.bool v) ∧ (l = m → v = true) ∧ sat W (rwP 55 b (doG l ⟨2, col, q, r, wide, ⟨fg, bg, fl⟩⟩).1 :: rwP 68 b2 (doG m ⟨2, col, q, r, wide, ⟨fg, bg, fl⟩⟩).1 :: H) w' := by
  have HN := Lib.hid hn
  have HM := Lib.hid hm
  have h1000 : n ≤ 1000 := by omega
  have m1000 : nm ≤ 1000 := by omega
  have e1 : doG l ⟨2, col, q, r, wide, ⟨fg, bg, fl⟩⟩ = joinG l col r := rfl
  have e2 : doG m ⟨2, col, q, r, wide, ⟨fg, bg, fl⟩⟩ = joinG m col r := rfl
  have e3 : Hid (l = m → (joinG l col r).2 = (joinG m col r).2) := Lib.hid (fun e => by rw [e])
  have h4 := Lib.hid ok.m4
  have hh := Lib.hid ok.head0
  have h4m := Lib.hid okm.m4
  have hhm := Lib.hid okm.head0
  rw [e1, e2]
  obtain ⟨L, p1, hp1⟩ : ∃ L p, joinG l col r = (L, p) := ⟨_, _, rfl⟩
  obtain ⟨M, p2, hp2⟩ : ∃ L p, joinG m col r = (L, p) := ⟨_, _, rfl⟩
  rw [hp1, hp2] at e3 ⊢
  have HP1 := Lib.hid hp1
  have HP2 := Lib.hid hp2
  clear hn hm e1 e2 hp1 hp2 ok okm
  go_enter Try.func10, Try.ntmps10
  go_upto_region 5 with (first | ((with_reducible refine isl ?_); first | ((with_reducible apply stsw hs.b0); exact rfl; exact rfl; exact rfl; exact rfl; exact row35; exact rfl; exact rfl; exact rfl; clear hs; intro w hs) | ((with_reducible apply ld hs.b0); exact rfl; exact rfl; exact rfl; exact rfl; kernel_rfl) | ((with_reducible apply st hs.b0); exact rfl; exact rfl; exact rfl; exact rfl; exact rfl; exact rfl; kernel_rfl; exact rfl; clear hs; intro w hs) | ((with_reducible apply stc hs.b0); exact rfl; exact rfl; exact rfl; exact rfl; exact rfl; kernel_rfl; exact rfl; clear hs; intro w hs) | ((with_reducible refine wrap hs ?_); clear hs; (first | generalize w.heap.size = z5); intro w hs) | ((with_reducible refine wrap hs ?_); clear hs; intro w hs) | ((with_reducible refine wrapn hs ?_); clear hs; intro w hs) | ((with_reducible refine wrapd hs ?_); clear hs; intro w hs)))
  refine region_mix [([0, 1, 2, 3, 4, 6, 7, 8, 9, 10], [5]), ([], [11])] [12, 13] hs (fun _ h => by (show sat W [cel z5 35 (opL ⟨2, col, q, r, wide, ⟨fg, bg, fl⟩⟩)] _; refine sb_from ?_ h; repeat constructor)) (by kernel_rfl) (by kernel_rfl) (fun _ _ _ _ _ h => h) ?_
  simp only [segs, nths, nth, List.append_nil, List.nil_append, List.cons_append, List.map_cons, List.map_nil]
  refine seg_reads (fun _ h => by (show sat W [cel z5 35 (opL ⟨2, col, q, r, wide, ⟨fg, bg, fl⟩⟩)] _; refine sb_from ?_ h; repeat constructor)) ?_; intro X f hne hf hcl; (try simp only [Act.put, List.setIfInBounds_toArray, List.set_cons_succ, List.set_cons_zero]); (repeat ((first | ((with_reducible apply ldsq (cs := [.int .u32 fg, .int .u32 bg, .int .u16 fl]) 3 (fun x => (hf x).b0)); exact rfl; exact rfl; exact rfl; exact row33; exact rfl; exact rfl) | ((with_reducible apply ldq (fun x => (hf x).b0)); exact rfl; exact rfl; exact rfl; exact rfl; kernel_rfl) | ((with_reducible apply ldq (fun x => (hf x).b1)); exact rfl; exact rfl; exact rfl; exact rfl; kernel_rfl) | ((with_reducible apply ldq (fun x => (hf x).b2)); exact rfl; exact rfl; exact rfl; exact rfl; kernel_rfl) | ((with_reducible apply ldq (fun x => (hf x).b3)); exact rfl; exact rfl; exact rfl; exact rfl; kernel_rfl) | go_big_quiet_step (fail)); (try simp only [Act.put, List.setIfInBounds_toArray, List.set_cons_succ, List.set_cons_zero]))); refine wpQuiet_nil ?_; clear hcl hf hne hs f X; intro w hs
  go_wp2_with (first | (go_at_call 23; refine (join23 HN.out h0 h1000 h4.out hh.out (by apply sk_from (hs := hs); repeat constructor)).mono ?_; clear hs; rintro e w ⟨rfl, hs⟩; rw [HP1.out] at hs ⊢) | (go_at_call 34; refine (join34 HM.out m1000 h4m.out hhm.out (by apply sk_from (hs := hs); repeat constructor)).mono ?_; clear hs; rintro e w ⟨rfl, hs⟩; rw [HP2.out] at hs ⊢) | ((with_reducible refine isl ?_); first | ((with_reducible apply ld hs.b0); exact rfl; exact rfl; exact rfl; exact rfl; kernel_rfl) | ((with_reducible apply st hs.b0); exact rfl; exact rfl; exact rfl; exact rfl; exact rfl; exact rfl; kernel_rfl; exact rfl; clear hs; intro w hs) | ((with_reducible apply stc hs.b0); exact rfl; exact rfl; exact rfl; exact rfl; exact rfl; kernel_rfl; exact rfl; clear hs; intro w hs) | ((with_reducible refine wrap hs ?_); clear hs; intro w hs) | ((with_reducible refine wrapn hs ?_); clear hs; intro w hs) | ((with_reducible refine wrapd hs ?_); clear hs; intro w hs)))
  (first | refine seg_on hs (fun _ h => h) ?_ ?_ | refine seg_on hs.made (fun _ h => h) ?_ ?_ | refine seg_on hs.drew (fun _ h => h) ?_ ?_ | refine seg_on hs.drew.made (fun _ h => h) ?_ ?_ | refine seg_on (hs.drewN _) (fun _ h => h) ?_ ?_)
  · exact fun _ h => by (show sat W [cel z5 35 (opL ⟨2, col, q, r, wide, ⟨fg, bg, fl⟩⟩)] _; refine sb_from ?_ h; repeat constructor)
  clear hs; intro hs
  refine seg_reads (fun _ h => by (show sat W [cel z5 35 (opL ⟨2, col, q, r, wide, ⟨fg, bg, fl⟩⟩)] _; refine sb_from ?_ h; repeat constructor)) ?_; intro X f hne hf hcl; (try simp only [Act.put, List.setIfInBounds_toArray, List.set_cons_succ, List.set_cons_zero]); (repeat ((first | ((with_reducible apply ldsq (cs := [.int .u32 fg, .int .u32 bg, .int .u16 fl]) 3 (fun x => (hf x).b0)); exact rfl; exact rfl; exact rfl; exact row33; exact rfl; exact rfl) | ((with_reducible apply ldq (fun x => (hf x).b0)); exact rfl; exact rfl; exact rfl; exact rfl; kernel_rfl) | ((with_reducible apply ldq (fun x => (hf x).b1)); exact rfl; exact rfl; exact rfl; exact rfl; kernel_rfl) | ((with_reducible apply ldq (fun x => (hf x).b2)); exact rfl; exact rfl; exact rfl; exact rfl; kernel_rfl) | ((with_reducible apply ldq (fun x => (hf x).b3)); exact rfl; exact rfl; exact rfl; exact rfl; kernel_rfl) | go_big_quiet_step (fail)); (try simp only [Act.put, List.setIfInBounds_toArray, List.set_cons_succ, List.set_cons_zero]))); refine wpQuiet_nil ?_; clear hcl hf hne hs f X; intro w hs
  go_wp2_with (first | (go_at_call 23; refine (join23 HN.out h0 h1000 h4.out hh.out (by apply sk_from (hs := hs); repeat constructor)).mono ?_; clear hs; rintro e w ⟨rfl, hs⟩; rw [HP1.out] at hs ⊢) | (go_at_call 34; refine (join34 HM.out m1000 h4m.out hhm.out (by apply sk_from (hs := hs); repeat constructor)).mono ?_; clear hs; rintro e w ⟨rfl, hs⟩; rw [HP2.out] at hs ⊢) | ((with_reducible refine isl ?_); first | ((with_reducible apply ld hs.b0); exact rfl; exact rfl; exact rfl; exact rfl; kernel_rfl) | ((with_reducible apply st hs.b0); exact rfl; exact rfl; exact rfl; exact rfl; exact rfl; exact rfl; kernel_rfl; exact rfl; clear hs; intro w hs) | ((with_reducible apply stc hs.b0); exact rfl; exact rfl; exact rfl; exact rfl; exact rfl; kernel_rfl; exact rfl; clear hs; intro w hs) | ((with_reducible refine wrap hs ?_); clear hs; intro w hs) | ((with_reducible refine wrapn hs ?_); clear hs; intro w hs) | ((with_reducible refine wrapd hs ?_); clear hs; intro w hs)))
  (first | refine seg_on hs (fun _ h => h) ?_ ?_ | refine seg_on hs.made (fun _ h => h) ?_ ?_ | refine seg_on hs.drew (fun _ h => h) ?_ ?_ | refine seg_on hs.drew.made (fun _ h => h) ?_ ?_ | refine seg_on (hs.drewN _) (fun _ h => h) ?_ ?_)
  · exact fun _ h => by (show sat W [cel z5 35 (opL ⟨2, col, q, r, wide, ⟨fg, bg, fl⟩⟩)] _; refine sb_from ?_ h; repeat constructor)
  clear hs; intro hs
  refine seg_last (fun _ h => by (show sat W [cel z5 35 (opL ⟨2, col, q, r, wide, ⟨fg, bg, fl⟩⟩)] _; refine sb_from ?_ h; repeat constructor)) ?_; intro X f hne hf hcl; (try simp only [Act.put, List.setIfInBounds_toArray, List.set_cons_succ, List.set_cons_zero]); (repeat ((first | ((with_reducible apply ldsq (cs := [.int .u32 fg, .int .u32 bg, .int .u16 fl]) 3 (fun x => (hf x).b0)); exact rfl; exact rfl; exact rfl; exact row33; exact rfl; exact rfl) | ((with_reducible apply ldq (fun x => (hf x).b0)); exact rfl; exact rfl; exact rfl; exact rfl; kernel_rfl) | ((with_reducible apply ldq (fun x => (hf x).b1)); exact rfl; exact rfl; exact rfl; exact rfl; kernel_rfl) | ((with_reducible apply ldq (fun x => (hf x).b2)); exact rfl; exact rfl; exact rfl; exact rfl; kernel_rfl) | ((with_reducible apply ldq (fun x => (hf x).b3)); exact rfl; exact rfl; exact rfl; exact rfl; kernel_rfl) | go_big_quiet_step (fail)); (try simp only [Act.put, List.setIfInBounds_toArray, List.set_cons_succ, List.set_cons_zero]))); refine wpQuiet_nil ?_; clear hcl hf hne hs f X; intro w hs
  go_wp2_with fail
  go_ret
  exact ⟨_, rfl, fun h => by simpa using e3.out h, by refine sb_from ?_ hs; repeat constructor⟩
theorem do10_3 {b b2 n nm : Nat} {l m : List C} {col q r fg bg fl : Int} {wide : Bool} (hn : l.length = n) (h0 : 0 < n) (h512 : n ≤ 512) (ok : Ok l) (hm : m.length = nm) (m0 : 0 < nm) (m512 : nm ≤ 512) (okm : Ok m) (hs : sat W (rwP 55 b l :: rwP 68 b2 m :: H) w) :
    Calls Try.prog 10 #[.pointer (some ⟨b, 0, none⟩), .pointer (some ⟨b2, 0, none⟩), opV ⟨3, col, q, r, wide, ⟨fg, bg, fl⟩⟩] w fun e w' => ∃ v, e = .returned (.bool v) ∧ (l = m → v = true) ∧ sat W (rwP 55 b (doG l ⟨3, col, q, r, wide, ⟨fg, bg, fl⟩⟩).1 :: rwP 68 b2 (doG m ⟨3, col, q, r, wide, ⟨fg, bg, fl⟩⟩).1 :: H) w' := by
  have HN := Lib.hid hn
  have HM := Lib.hid hm
  have h1000 : n ≤ 1000 := by omega
  have m1000 : nm ≤ 1000 := by omega
  have e1 : (doG l ⟨3, col, q, r, wide, ⟨fg, bg, fl⟩⟩).1 = eraseG l col q ⟨fg, bg, fl⟩ := rfl
  have e2 : (doG m ⟨3, col, q, r, wide, ⟨fg, bg, fl⟩⟩).1 = eraseR m col q ⟨fg, bg, fl⟩ := (erase_eq okm col q ⟨fg, bg, fl⟩).1
  rw [e1, e2]
  clear hn hm e1 e2 ok okm
  go_enter Try.func10, Try.ntmps10
  go_wp2_with (first | (go_at_call 21; refine (erase21 (at_ := ⟨fg, bg, fl⟩) HN.out h0 h1000 (by apply sk_from (hs := hs); repeat constructor)).mono ?_; clear hs; rintro e w ⟨rfl, hs⟩) | (go_at_call 35; refine (erase35 (at_ := ⟨fg, bg, fl⟩) HM.out m0 m1000 (by apply sk_from (hs := hs); repeat constructor)).mono ?_; clear hs; rintro e w ⟨rfl, hs⟩) | ((with_reducible refine isl ?_); first | ((with_reducible apply stsw hs.b0); exact rfl; exact rfl; exact rfl; exact rfl; exact row35; exact rfl; exact rfl; exact rfl; clear hs; intro w hs) | ((with_reducible apply lds 3 hs.b0); exact rfl; exact rfl; exact rfl; exact row33; exact rfl; exact rfl) | ((with_reducible apply lds 3 hs.b1); exact rfl; exact rfl; exact rfl; exact row33; exact rfl; exact rfl) | ((with_reducible apply lds 3 hs.b2); exact rfl; exact rfl; exact rfl; exact row33; exact rfl; exact rfl) | ((with_reducible apply lds 3 hs.b3); exact rfl; exact rfl; exact rfl; exact row33; exact rfl; exact rfl) | ((with_reducible apply ld hs.b0); exact rfl; exact rfl; exact rfl; exact rfl; kernel_rfl) | ((with_reducible apply ld hs.b1); exact rfl; exact rfl; exact rfl; exact rfl; kernel_rfl) | ((with_reducible apply ld hs.b2); exact rfl; exact rfl; exact rfl; exact rfl; kernel_rfl) | ((with_reducible apply ld hs.b3); exact rfl; exact rfl; exact rfl; exact rfl; kernel_rfl) | ((with_reducible apply st hs.b0); exact rfl; exact rfl; exact rfl; exact rfl; exact rfl; exact rfl; kernel_rfl; exact rfl; clear hs; intro w hs) | ((with_reducible apply st hs.b1); exact rfl; exact rfl; exact rfl; exact rfl; exact rfl; exact rfl; kernel_rfl; exact rfl; clear hs; intro w hs) | ((with_reducible apply st hs.b2); exact rfl; exact rfl; exact rfl; exact rfl; exact rfl; exact rfl; kernel_rfl; exact rfl; clear hs; intro w hs) | ((with_reducible apply st hs.b3); exact rfl; exact rfl; exact rfl; exact rfl; exact rfl; exact rfl; kernel_rfl; exact rfl; clear hs; intro w hs) | ((with_reducible apply stc hs.b0); exact rfl; exact rfl; exact rfl; exact rfl; exact rfl; kernel_rfl; exact rfl; clear hs; intro w hs) | ((with_reducible apply stc hs.b1); exact rfl; exact rfl; exact rfl; exact rfl; exact rfl; kernel_rfl; exact rfl; clear hs; intro w hs) | ((with_reducible apply stc hs.b2); exact rfl; exact rfl; exact rfl; exact rfl; exact rfl; kernel_rfl; exact rfl; clear hs; intro w hs) | ((with_reducible apply stc hs.b3); exact rfl; exact rfl; exact rfl; exact rfl; exact rfl; kernel_rfl; exact rfl; clear hs; intro w hs) | ((with_reducible refine wrap hs ?_); clear hs; (first | generalize w.heap.size = z5); intro w hs) | ((with_reducible refine wrap hs ?_); clear hs; intro w hs) | ((with_reducible refine wrapn hs ?_); clear hs; intro w hs) | ((with_reducible refine wrapd hs ?_); clear hs; intro w hs)))
  go_ret
  exact ⟨true, rfl, fun _ => rfl, by refine sb_from ?_ hs; repeat constructor⟩
theorem do10_4 {b b2 n nm : Nat} {l m : List C} {col q r fg bg fl : Int} {wide : Bool} (hn : l.length = n) (h0 : 0 < n) (h512 : n ≤ 512) (ok : Ok l) (hm : m.length = nm) (m0 : 0 < nm) (m512 : nm ≤ 512) (okm : Ok m) (hs : sat W (rwP 55 b l :: rwP 68 b2 m :: H) w) :
    Calls Try.prog 10 #[.pointer (some ⟨b, 0, none⟩), .pointer (some ⟨b2, 0, none⟩), opV ⟨4, col, q, r, wide, ⟨fg, bg, fl⟩⟩] w fun e w' => ∃ v, e = .returned (.bool v) ∧ (l = m → v = true) ∧ sat W (rwP 55 b (doG l ⟨4, col, q, r, wide, ⟨fg, bg, fl⟩⟩).1 :: rwP 68 b2 (doG m ⟨4, col, q, r, wide, ⟨fg, bg, fl⟩⟩).1 :: H) w' := by
  have HN := Lib.hid hn
  have HM := Lib.hid hm
  have h1000 : n ≤ 1000 := by omega
  have m1000 : nm ≤ 1000 := by omega
  have e1 : (doG l ⟨4, col, q, r, wide, ⟨fg, bg, fl⟩⟩).1 = insG l col q ⟨fg, bg, fl⟩ := rfl
  have e2 : (doG m ⟨4, col, q, r, wide, ⟨fg, bg, fl⟩⟩).1 = insR m col q ⟨fg, bg, fl⟩ := (insert_eq okm col q ⟨fg, bg, fl⟩).1
  rw [e1, e2]
  clear hn hm e1 e2 ok okm
  go_enter Try.func10, Try.ntmps10
  go_wp2_with (first | (go_at_call 13; refine (insert13 (at_ := ⟨fg, bg, fl⟩) HN.out h0 h1000 (by apply sk_from (hs := hs); repeat constructor)).mono ?_; clear hs; rintro e w ⟨rfl, hs⟩) | (go_at_call 36; refine (insert36 (at_ := ⟨fg, bg, fl⟩) HM.out m0 m1000 (by apply sk_from (hs := hs); repeat constructor)).mono ?_; clear hs; rintro e w ⟨rfl, hs⟩) | ((with_reducible refine isl ?_); first | ((with_reducible apply stsw hs.b0); exact rfl; exact rfl; exact rfl; exact rfl; exact row35; exact rfl; exact rfl; exact rfl; clear hs; intro w hs) | ((with_reducible apply lds 3 hs.b0); exact rfl; exact rfl; exact rfl; exact row33; exact rfl; exact rfl) | ((with_reducible apply lds 3 hs.b1); exact rfl; exact rfl; exact rfl; exact row33; exact rfl; exact rfl) | ((with_reducible apply lds 3 hs.b2); exact rfl; exact rfl; exact rfl; exact row33; exact rfl; exact rfl) | ((with_reducible apply lds 3 hs.b3); exact rfl; exact rfl; exact rfl; exact row33; exact rfl; exact rfl) | ((with_reducible apply ld hs.b0); exact rfl; exact rfl; exact rfl; exact rfl; kernel_rfl) | ((with_reducible apply ld hs.b1); exact rfl; exact rfl; exact rfl; exact rfl; kernel_rfl) | ((with_reducible apply ld hs.b2); exact rfl; exact rfl; exact rfl; exact rfl; kernel_rfl) | ((with_reducible apply ld hs.b3); exact rfl; exact rfl; exact rfl; exact rfl; kernel_rfl) | ((with_reducible apply st hs.b0); exact rfl; exact rfl; exact rfl; exact rfl; exact rfl; exact rfl; kernel_rfl; exact rfl; clear hs; intro w hs) | ((with_reducible apply st hs.b1); exact rfl; exact rfl; exact rfl; exact rfl; exact rfl; exact rfl; kernel_rfl; exact rfl; clear hs; intro w hs) | ((with_reducible apply st hs.b2); exact rfl; exact rfl; exact rfl; exact rfl; exact rfl; exact rfl; kernel_rfl; exact rfl; clear hs; intro w hs) | ((with_reducible apply st hs.b3); exact rfl; exact rfl; exact rfl; exact rfl; exact rfl; exact rfl; kernel_rfl; exact rfl; clear hs; intro w hs) | ((with_reducible apply stc hs.b0); exact rfl; exact rfl; exact rfl; exact rfl; exact rfl; kernel_rfl; exact rfl; clear hs; intro w hs) | ((with_reducible apply stc hs.b1); exact rfl; exact rfl; exact rfl; exact rfl; exact rfl; kernel_rfl; exact rfl; clear hs; intro w hs) | ((with_reducible apply stc hs.b2); exact rfl; exact rfl; exact rfl; exact rfl; exact rfl; kernel_rfl; exact rfl; clear hs; intro w hs) | ((with_reducible apply stc hs.b3); exact rfl; exact rfl; exact rfl; exact rfl; exact rfl; kernel_rfl; exact rfl; clear hs; intro w hs) | ((with_reducible refine wrap hs ?_); clear hs; (first | generalize w.heap.size = z5); intro w hs) | ((with_reducible refine wrap hs ?_); clear hs; intro w hs) | ((with_reducible refine wrapn hs ?_); clear hs; intro w hs) | ((with_reducible refine wrapd hs ?_); clear hs; intro w hs)))
  go_ret
  exact ⟨true, rfl, fun _ => rfl, by refine sb_from ?_ hs; repeat constructor⟩
theorem do10_5 {b b2 n nm : Nat} {l m : List C} {col q r fg bg fl : Int} {wide : Bool} (hn : l.length = n) (h0 : 0 < n) (h512 : n ≤ 512) (ok : Ok l) (hm : m.length = nm) (m0 : 0 < nm) (m512 : nm ≤ 512) (okm : Ok m) (hs : sat W (rwP 55 b l :: rwP 68 b2 m :: H) w) :
    Calls Try.prog 10 #[.pointer (some ⟨b, 0, none⟩), .pointer (some ⟨b2, 0, none⟩), opV ⟨5, col, q, r, wide, ⟨fg, bg, fl⟩⟩] w fun e w' => ∃ v, e = .returned (.bool v) ∧ (l = m → v = true) ∧ sat W (rwP 55 b (doG l ⟨5, col, q, r, wide, ⟨fg, bg, fl⟩⟩).1 :: rwP 68 b2 (doG m ⟨5, col, q, r, wide, ⟨fg, bg, fl⟩⟩).1 :: H) w' := by
  have HN := Lib.hid hn
  have HM := Lib.hid hm
  have h1000 : n ≤ 1000 := by omega
  have m1000 : nm ≤ 1000 := by omega
  have e1 : (doG l ⟨5, col, q, r, wide, ⟨fg, bg, fl⟩⟩).1 = delG l col q ⟨fg, bg, fl⟩ := rfl
  have e2 : (doG m ⟨5, col, q, r, wide, ⟨fg, bg, fl⟩⟩).1 = delR m col q ⟨fg, bg, fl⟩ := (delete_eq okm col q ⟨fg, bg, fl⟩).1
  rw [e1, e2]
  clear hn hm e1 e2 ok okm
  go_enter Try.func10, Try.ntmps10
  go_wp2_with (first | (go_at_call 14; refine (delete14 (at_ := ⟨fg, bg, fl⟩) HN.out h0 h1000 (by apply sk_from (hs := hs); repeat constructor)).mono ?_; clear hs; rintro e w ⟨rfl, hs⟩) | (go_at_call 37; refine (delete37 (at_ := ⟨fg, bg, fl⟩) HM.out m0 m1000 (by apply sk_from (hs := hs); repeat constructor)).mono ?_; clear hs; rintro e w ⟨rfl, hs⟩) | ((with_reducible refine isl ?_); first | ((with_reducible apply stsw hs.b0); exact rfl; exact rfl; exact rfl; exact rfl; exact row35; exact rfl; exact rfl; exact rfl; clear hs; intro w hs) | ((with_reducible apply lds 3 hs.b0); exact rfl; exact rfl; exact rfl; exact row33; exact rfl; exact rfl) | ((with_reducible apply lds 3 hs.b1); exact rfl; exact rfl; exact rfl; exact row33; exact rfl; exact rfl) | ((with_reducible apply lds 3 hs.b2); exact rfl; exact rfl; exact rfl; exact row33; exact rfl; exact rfl) | ((with_reducible apply lds 3 hs.b3); exact rfl; exact rfl; exact rfl; exact row33; exact rfl; exact rfl) | ((with_reducible apply ld hs.b0); exact rfl; exact rfl; exact rfl; exact rfl; kernel_rfl) | ((with_reducible apply ld hs.b1); exact rfl; exact rfl; exact rfl; exact rfl; kernel_rfl) | ((with_reducible apply ld hs.b2); exact rfl; exact rfl; exact rfl; exact rfl; kernel_rfl) | ((with_reducible apply ld hs.b3); exact rfl; exact rfl; exact rfl; exact rfl; kernel_rfl) | ((with_reducible apply st hs.b0); exact rfl; exact rfl; exact rfl; exact rfl; exact rfl; exact rfl; kernel_rfl; exact rfl; clear hs; intro w hs) | ((with_reducible apply st hs.b1); exact rfl; exact rfl; exact rfl; exact rfl; exact rfl; exact rfl; kernel_rfl; exact rfl; clear hs; intro w hs) | ((with_reducible apply st hs.b2); exact rfl; exact rfl; exact rfl; exact rfl; exact rfl; exact rfl; kernel_rfl; exact rfl; clear hs; intro w hs) | ((with_reducible apply st hs.b3); exact rfl; exact rfl; exact rfl; exact rfl; exact rfl; exact rfl; kernel_rfl; exact rfl; clear hs; intro w hs) | ((with_reducible apply stc hs.b0); exact rfl; exact rfl; exact rfl; exact rfl; exact rfl; kernel_rfl; exact rfl; clear hs; intro w hs) | ((with_reducible apply stc hs.b1); exact rfl; exact rfl; exact rfl; exact rfl; exact rfl; kernel_rfl; exact rfl; clear hs; intro w hs) | ((with_reducible apply stc hs.b2); exact rfl; exact rfl; exact rfl; exact rfl; exact rfl; kernel_rfl; exact rfl; clear hs; intro w hs) | ((with_reducible apply stc hs.b3); exact rfl; exact rfl; exact rfl; exact rfl; exact rfl; kernel_rfl; exact rfl; clear hs; intro w hs) | ((with_reducible refine wrap hs ?_); clear hs; (first | generalize w.heap.size = z5); intro w hs) | ((with_reducible refine wrap hs ?_); clear hs; intro w hs) | ((with_reducible refine wrapn hs ?_); clear hs; intro w hs) | ((with_reducible refine wrapd hs ?_); clear hs; intro w hs)))
  go_ret
  exact ⟨true, rfl, fun _ => rfl, by refine sb_from ?_ hs; repeat constructor⟩
theorem do10_6no {b b2 n nm : Nat} {l m : List C} {col q r fg bg fl : Int} {wide : Bool} (hq : ¬ (1 ≤ q ∧ q ≤ 512)) (hn : l.length = n) (h0 : 0 < n) (h512 : n ≤ 512) (ok : Ok l) (hm : m.length = nm) (m0 : 0 < nm) (m512 : nm ≤ 512) (okm : Ok m) (hs : sat W (rwP 55 b l :: rwP 68 b2 m :: H) w) :
    Calls Try.prog 10 #[.pointer (some ⟨b, 0, none⟩), .pointer (some ⟨b2, 0, none⟩), opV ⟨6, col, q, r, wide, ⟨fg, bg, fl⟩⟩] w fun e w' => ∃ v, e = .returned (.bool v) ∧ (l = m → v = true) ∧ sat W (rwP 55 b (doG l ⟨6, col, q, r, wide, ⟨fg, bg, fl⟩⟩).1 :: rwP 68 b2 (doG m ⟨6, col, q, r, wide, ⟨fg, bg, fl⟩⟩).1 :: H) w' := by
  have HN := Lib.hid hn
  have HM := Lib.hid hm
  have h1000 : n ≤ 1000 := by omega
  have m1000 : nm ≤ 1000 := by omega
  have e1 : (doG l ⟨6, col, q, r, wide, ⟨fg, bg, fl⟩⟩).1 = l := by show (if 1 ≤ q ∧ q ≤ 512 then (resG l q.toNat, (0 : Int)) else (l, 2)).1 = l; rw [if_neg hq]
  have e2 : (doG m ⟨6, col, q, r, wide, ⟨fg, bg, fl⟩⟩).1 = m := by show (if 1 ≤ q ∧ q ≤ 512 then (resG m q.toNat, (0 : Int)) else (m, 2)).1 = m; rw [if_neg hq]
  have HQ := Lib.hid hq
  rw [e1, e2]
  clear hn hm e1 e2 ok okm hq
  go_enter Try.func10, Try.ntmps10
  go_upto_region 16 with (first | ((with_reducible refine isl ?_); first | ((with_reducible apply stsw hs.b0); exact rfl; exact rfl; exact rfl; exact rfl; exact row35; exact rfl; exact rfl; exact rfl; clear hs; intro w hs) | ((with_reducible apply ld hs.b0); exact rfl; exact rfl; exact rfl; exact rfl; kernel_rfl) | ((with_reducible apply st hs.b0); exact rfl; exact rfl; exact rfl; exact rfl; exact rfl; exact rfl; kernel_rfl; exact rfl; clear hs; intro w hs) | ((with_reducible apply stc hs.b0); exact rfl; exact rfl; exact rfl; exact rfl; exact rfl; kernel_rfl; exact rfl; clear hs; intro w hs) | ((with_reducible refine wrap hs ?_); clear hs; (first | generalize w.heap.size = z5); intro w hs) | ((with_reducible refine wrap hs ?_); clear hs; intro w hs) | ((with_reducible refine wrapn hs ?_); clear hs; intro w hs) | ((with_reducible refine wrapd hs ?_); clear hs; intro w hs)))
  refine region_mix [([0, 1, 2, 4, 5, 6], [3]), ([], [7])] [8, 9] hs (fun _ h => by (show sat W [cel z5 35 (opL ⟨6, col, q, r, wide, ⟨fg, bg, fl⟩⟩)] _; refine sb_from ?_ h; repeat constructor)) (by kernel_rfl) (by kernel_rfl) (fun _ _ _ _ _ h => h) ?_
  simp only [segs, nths, nth, List.append_nil, List.nil_append, List.cons_append, List.map_cons, List.map_nil]
  refine seg_reads (fun _ h => by (show sat W [cel z5 35 (opL ⟨6, col, q, r, wide, ⟨fg, bg, fl⟩⟩)] _; refine sb_from ?_ h; repeat constructor)) ?_; intro X f hne hf hcl; (try simp only [Act.put, List.setIfInBounds_toArray, List.set_cons_succ, List.set_cons_zero]); (repeat ((first | ((with_reducible apply ldsq (cs := [.int .u32 fg, .int .u32 bg, .int .u16 fl]) 3 (fun x => (hf x).b0)); exact rfl; exact rfl; exact rfl; exact row33; exact rfl; exact rfl) | ((with_reducible apply ldq (fun x => (hf x).b0)); exact rfl; exact rfl; exact rfl; exact rfl; kernel_rfl) | ((with_reducible apply ldq (fun x => (hf x).b1)); exact rfl; exact rfl; exact rfl; exact rfl; kernel_rfl) | ((with_reducible apply ldq (fun x => (hf x).b2)); exact rfl; exact rfl; exact rfl; exact rfl; kernel_rfl) | ((with_reducible apply ldq (fun x => (hf x).b3)); exact rfl; exact rfl; exact rfl; exact rfl; kernel_rfl) | go_big_quiet_step (fail)); (try simp only [Act.put, List.setIfInBounds_toArray, List.set_cons_succ, List.set_cons_zero]))); refine wpQuiet_nil ?_; clear hcl hf hne hs f X; intro w hs
  go_wp2_with (first | (go_at_call 26; refine (resize26_no HN.out h0 HQ.out (by apply sk_from (hs := hs); repeat constructor)).mono ?_; clear hs; rintro e w ⟨rfl, hs⟩) | (go_at_call 38; refine (resize38_no HQ.out (by apply sk_from (hs := hs); repeat constructor)).mono ?_; clear hs; rintro e w ⟨rfl, hs⟩) | ((with_reducible refine isl ?_); first | ((with_reducible apply ld hs.b0); exact rfl; exact rfl; exact rfl; exact rfl; kernel_rfl) | ((with_reducible apply st hs.b0); exact rfl; exact rfl; exact rfl; exact rfl; exact rfl; exact rfl; kernel_rfl; exact rfl; clear hs; intro w hs) | ((with_reducible apply stc hs.b0); exact rfl; exact rfl; exact rfl; exact rfl; exact rfl; kernel_rfl; exact rfl; clear hs; intro w hs) | ((with_reducible refine wrap hs ?_); clear hs; intro w hs) | ((with_reducible refine wrapn hs ?_); clear hs; intro w hs) | ((with_reducible refine wrapd hs ?_); clear hs; intro w hs)))
  (first | refine seg_on hs (fun _ h => h) ?_ ?_ | refine seg_on hs.made (fun _ h => h) ?_ ?_ | refine seg_on hs.drew (fun _ h => h) ?_ ?_ | refine seg_on hs.drew.made (fun _ h => h) ?_ ?_ | refine seg_on (hs.drewN _) (fun _ h => h) ?_ ?_)
  · exact fun _ h => by (show sat W [cel z5 35 (opL ⟨6, col, q, r, wide, ⟨fg, bg, fl⟩⟩)] _; refine sb_from ?_ h; repeat constructor)
  clear hs; intro hs
  refine seg_reads (fun _ h => by (show sat W [cel z5 35 (opL ⟨6, col, q, r, wide, ⟨fg, bg, fl⟩⟩)] _; refine sb_from ?_ h; repeat constructor)) ?_; intro X f hne hf hcl; (try simp only [Act.put, List.setIfInBounds_toArray, List.set_cons_succ, List.set_cons_zero]); (repeat ((first | ((with_reducible apply ldsq (cs := [.int .u32 fg, .int .u32 bg, .int .u16 fl]) 3 (fun x => (hf x).b0)); exact rfl; exact rfl; exact rfl; exact row33; exact rfl; exact rfl) | ((with_reducible apply ldq (fun x => (hf x).b0)); exact rfl; exact rfl; exact rfl; exact rfl; kernel_rfl) | ((with_reducible apply ldq (fun x => (hf x).b1)); exact rfl; exact rfl; exact rfl; exact rfl; kernel_rfl) | ((with_reducible apply ldq (fun x => (hf x).b2)); exact rfl; exact rfl; exact rfl; exact rfl; kernel_rfl) | ((with_reducible apply ldq (fun x => (hf x).b3)); exact rfl; exact rfl; exact rfl; exact rfl; kernel_rfl) | go_big_quiet_step (fail)); (try simp only [Act.put, List.setIfInBounds_toArray, List.set_cons_succ, List.set_cons_zero]))); refine wpQuiet_nil ?_; clear hcl hf hne hs f X; intro w hs
  go_wp2_with (first | (go_at_call 26; refine (resize26_no HN.out h0 HQ.out (by apply sk_from (hs := hs); repeat constructor)).mono ?_; clear hs; rintro e w ⟨rfl, hs⟩) | (go_at_call 38; refine (resize38_no HQ.out (by apply sk_from (hs := hs); repeat constructor)).mono ?_; clear hs; rintro e w ⟨rfl, hs⟩) | ((with_reducible refine isl ?_); first | ((with_reducible apply ld hs.b0); exact rfl; exact rfl; exact rfl; exact rfl; kernel_rfl) | ((with_reducible apply st hs.b0); exact rfl; exact rfl; exact rfl; exact rfl; exact rfl; exact rfl; kernel_rfl; exact rfl; clear hs; intro w hs) | ((with_reducible apply stc hs.b0); exact rfl; exact rfl; exact rfl; exact rfl; exact rfl; kernel_rfl; exact rfl; clear hs; intro w hs) | ((with_reducible refine wrap hs ?_); clear hs; intro w hs) | ((with_reducible refine wrapn hs ?_); clear hs; intro w hs) | ((with_reducible refine wrapd hs ?_); clear hs; intro w hs)))
  (first | refine seg_on hs (fun _ h => h) ?_ ?_ | refine seg_on hs.made (fun _ h => h) ?_ ?_ | refine seg_on hs.drew (fun _ h => h) ?_ ?_ | refine seg_on hs.drew.made (fun _ h => h) ?_ ?_ | refine seg_on (hs.drewN _) (fun _ h => h) ?_ ?_)
  · exact fun _ h => by (show sat W [cel z5 35 (opL ⟨6, col, q, r, wide, ⟨fg, bg, fl⟩⟩)] _; refine sb_from ?_ h; repeat constructor)
  clear hs; intro hs
  refine seg_last (fun _ h => by (show sat W [cel z5 35 (opL ⟨6, col, q, r, wide, ⟨fg, bg, fl⟩⟩)] _; refine sb_from ?_ h; repeat constructor)) ?_; intro X f hne hf hcl; (try simp only [Act.put, List.setIfInBounds_toArray, List.set_cons_succ, List.set_cons_zero]); (repeat ((first | ((with_reducible apply ldsq (cs := [.int .u32 fg, .int .u32 bg, .int .u16 fl]) 3 (fun x => (hf x).b0)); exact rfl; exact rfl; exact rfl; exact row33; exact rfl; exact rfl) | ((with_reducible apply ldq (fun x => (hf x).b0)); exact rfl; exact rfl; exact rfl; exact rfl; kernel_rfl) | ((with_reducible apply ldq (fun x => (hf x).b1)); exact rfl; exact rfl; exact rfl; exact rfl; kernel_rfl) | ((with_reducible apply ldq (fun x => (hf x).b2)); exact rfl; exact rfl; exact rfl; exact rfl; kernel_rfl) | ((with_reducible apply ldq (fun x => (hf x).b3)); exact rfl; exact rfl; exact rfl; exact rfl; kernel_rfl) | go_big_quiet_step (fail)); (try simp only [Act.put, List.setIfInBounds_toArray, List.set_cons_succ, List.set_cons_zero]))); refine wpQuiet_nil ?_; clear hcl hf hne hs f X; intro w hs
  go_wp2_with fail
  go_ret
  exact ⟨true, rfl, fun _ => rfl, by refine sb_from ?_ hs; repeat constructor⟩
theorem do10_6ok {b b2 n nm : Nat} {q0 : Nat} {l m : List C} {col r fg bg fl : Int} {wide : Bool} (hq0 : 1 ≤ q0) (hq : q0 ≤ 512) (hn : l.length = n) (h0 : 0 < n) (h512 : n ≤ 512) (ok : Ok l) (hm : m.length = nm) (m0 : 0 < nm) (m512 : nm ≤ 512) (okm : Ok m) (hs : sat W (rwP 55 b l :: rwP 68 b2 m :: H) w) :
    Calls Try.prog 10 #[.pointer (some ⟨b, 0, none⟩), .pointer (some ⟨b2, 0, none⟩), opV ⟨6, col, (q0 : Int), r, wide, ⟨fg, bg, fl⟩⟩] w fun e w' => ∃ v, e = .returned (.bool v) ∧ (l = m → v = true) ∧ sat W (rwP 55 b (doG l ⟨6, col, (q0 : Int), r, wide, ⟨fg, bg, fl⟩⟩).1 :: rwP 68 b2 (doG m ⟨6, col, (q0 : Int), r, wide, ⟨fg, bg, fl⟩⟩).1 :: H) w' := by
  have HN := Lib.hid hn
  have HM := Lib.hid hm
  have h1000 : n ≤ 1000 := by omega
  have m1000 : nm ≤ 1000 := by omega
  have e1 : (doG l ⟨6, col, (q0 : Int), r, wide, ⟨fg, bg, fl⟩⟩).1 = resG l q0 := by show (if 1 ≤ (q0 : Int) ∧ (q0 : Int) ≤ 512 then (resG l (q0 : Int).toNat, (0 : Int)) else (l, 2)).1 = _; rw [if_pos (by omega)]; rfl
  have e2 : (doG m ⟨6, col, (q0 : Int), r, wide, ⟨fg, bg, fl⟩⟩).1 = resR m q0 := by show (if 1 ≤ (q0 : Int) ∧ (q0 : Int) ≤ 512 then (resG m (q0 : Int).toNat, (0 : Int)) else (m, 2)).1 = _; rw [if_pos (by omega)]; exact (resize_eq okm q0).1
  rw [e1, e2]
  clear hn hm e1 e2 ok okm
  go_enter Try.func10, Try.ntmps10
  go_upto_region 16 with (first | ((with_reducible refine isl ?_); first | ((with_reducible apply stsw hs.b0); exact rfl; exact rfl; exact rfl; exact rfl; exact row35; exact rfl; exact rfl; exact rfl; clear hs; intro w hs) | ((with_reducible apply ld hs.b0); exact rfl; exact rfl; exact rfl; exact rfl; kernel_rfl) | ((with_reducible apply st hs.b0); exact rfl; exact rfl; exact rfl; exact rfl; exact rfl; exact rfl; kernel_rfl; exact rfl; clear hs; intro w hs) | ((with_reducible apply stc hs.b0); exact rfl; exact rfl; exact rfl; exact rfl; exact rfl; kernel_rfl; exact rfl; clear hs; intro w hs) | ((with_reducible refine wrap hs ?_); clear hs; (first | generalize w.heap.size = z5); intro w hs) | ((with_reducible refine wrap hs ?_); clear hs; intro w hs) | ((with_reducible refine wrapn hs ?_); clear hs; intro w hs) | ((with_reducible refine wrapd hs ?_); clear hs; intro w hs)))
  refine region_mix [([0, 1, 2, 4, 5, 6], [3]), ([], [7])] [8, 9] hs (fun _ h => by (show sat W [cel z5 35 (opL ⟨6, col, (q0 : Int), r, wide, ⟨fg, bg, fl⟩⟩)] _; refine sb_from ?_ h; repeat constructor)) (by kernel_rfl) (by kernel_rfl) (fun _ _ _ _ _ h => h) ?_
  simp only [segs, nths, nth, List.append_nil, List.nil_append, List.cons_append, List.map_cons, List.map_nil]
  refine seg_reads (fun _ h => by (show sat W [cel z5 35 (opL ⟨6, col, (q0 : Int), r, wide, ⟨fg, bg, fl⟩⟩)] _; refine sb_from ?_ h; repeat constructor)) ?_; intro X f hne hf hcl; (try simp only [Act.put, List.setIfInBounds_toArray, List.set_cons_succ, List.set_cons_zero]); (repeat ((first | ((with_reducible apply ldsq (cs := [.int .u32 fg, .int .u32 bg, .int .u16 fl]) 3 (fun x => (hf x).b0)); exact rfl; exact rfl; exact rfl; exact row33; exact rfl; exact rfl) | ((with_reducible apply ldq (fun x => (hf x).b0)); exact rfl; exact rfl; exact rfl; exact rfl; kernel_rfl) | ((with_reducible apply ldq (fun x => (hf x).b1)); exact rfl; exact rfl; exact rfl; exact rfl; kernel_rfl) | ((with_reducible apply ldq (fun x => (hf x).b2)); exact rfl; exact rfl; exact rfl; exact rfl; kernel_rfl) | ((with_reducible apply ldq (fun x => (hf x).b3)); exact rfl; exact rfl; exact rfl; exact rfl; kernel_rfl) | go_big_quiet_step (fail)); (try simp only [Act.put, List.setIfInBounds_toArray, List.set_cons_succ, List.set_cons_zero]))); refine wpQuiet_nil ?_; clear hcl hf hne hs f X; intro w hs
  go_wp2_with (first | (go_at_call 26; refine (resize26_ok HN.out h0 h512 hq0 hq (by apply sk_from (hs := hs); repeat constructor)).mono ?_; clear hs; rintro e w ⟨rfl, hs⟩) | (go_at_call 38; refine (resize38_ok HM.out m0 m1000 hq0 hq (by apply sk_from (hs := hs); repeat constructor)).mono ?_; clear hs; rintro e w ⟨rfl, hs⟩) | ((with_reducible refine isl ?_); first | ((with_reducible apply ld hs.b0); exact rfl; exact rfl; exact rfl; exact rfl; kernel_rfl) | ((with_reducible apply st hs.b0); exact rfl; exact rfl; exact rfl; exact rfl; exact rfl; exact rfl; kernel_rfl; exact rfl; clear hs; intro w hs) | ((with_reducible apply stc hs.b0); exact rfl; exact rfl; exact rfl; exact rfl; exact rfl; kernel_rfl; exact rfl; clear hs; intro w hs) | ((with_reducible refine wrap hs ?_); clear hs; intro w hs) | ((with_reducible refine wrapn hs ?_); clear hs; intro w hs) | ((with_reducible refine wrapd hs ?_); clear hs; intro w hs)))
  (first | refine seg_on hs (fun _ h => h) ?_ ?_ | refine seg_on hs.made (fun _ h => h) ?_ ?_ | refine seg_on hs.drew (fun _ h => h) ?_ ?_ | refine seg_on hs.drew.made (fun _ h => h) ?_ ?_ | refine seg_on (hs.drewN _) (fun _ h => h) ?_ ?_)
  · exact fun _ h => by (show sat W [cel z5 35 (opL ⟨6, col, (q0 : Int), r, wide, ⟨fg, bg, fl⟩⟩)] _; refine sb_from ?_ h; repeat constructor)
  clear hs; intro hs
  refine seg_reads (fun _ h => by (show sat W [cel z5 35 (opL ⟨6, col, (q0 : Int), r, wide, ⟨fg, bg, fl⟩⟩)] _; refine sb_from ?_ h; repeat constructor)) ?_; intro X f hne hf hcl; (try simp only [Act.put, List.setIfInBounds_toArray, List.set_cons_succ, List.set_cons_zero]); (repeat ((first | ((with_reducible apply ldsq (cs := [.int .u32 fg, .int .u32 bg, .int .u16 fl]) 3 (fun x => (hf x).b0)); exact rfl; exact rfl; exact rfl; exact row33; exact rfl; exact rfl) | ((with_reducible apply ldq (fun x => (hf x).b0)); exact rfl; exact rfl; exact rfl; exact rfl; kernel_rfl) | ((with_reducible apply ldq (fun x => (hf x).b1)); exact rfl; exact rfl; exact rfl; exact rfl; kernel_rfl) | ((with_reducible apply ldq (fun x => (hf x).b2)); exact rfl; exact rfl; exact rfl; exact rfl; kernel_rfl) | ((with_reducible apply ldq (fun x => (hf x).b3)); exact rfl; exact rfl; exact rfl; exact rfl; kernel_rfl) | go_big_quiet_step (fail)); (try simp only [Act.put, List.setIfInBounds_toArray, List.set_cons_succ, List.set_cons_zero]))); refine wpQuiet_nil ?_; clear hcl hf hne hs f X; intro w hs
  go_wp2_with (first | (go_at_call 26; refine (resize26_ok HN.out h0 h512 hq0 hq (by apply sk_from (hs := hs); repeat constructor)).mono ?_; clear hs; rintro e w ⟨rfl, hs⟩) | (go_at_call 38; refine (resize38_ok HM.out m0 m1000 hq0 hq (by apply sk_from (hs := hs); repeat constructor)).mono ?_; clear hs; rintro e w ⟨rfl, hs⟩) | ((with_reducible refine isl ?_); first | ((with_reducible apply ld hs.b0); exact rfl; exact rfl; exact rfl; exact rfl; kernel_rfl) | ((with_reducible apply st hs.b0); exact rfl; exact rfl; exact rfl; exact rfl; exact rfl; exact rfl; kernel_rfl; exact rfl; clear hs; intro w hs) | ((with_reducible apply stc hs.b0); exact rfl; exact rfl; exact rfl; exact rfl; exact rfl; kernel_rfl; exact rfl; clear hs; intro w hs) | ((with_reducible refine wrap hs ?_); clear hs; intro w hs) | ((with_reducible refine wrapn hs ?_); clear hs; intro w hs) | ((with_reducible refine wrapd hs ?_); clear hs; intro w hs)))
  (first | refine seg_on hs (fun _ h => h) ?_ ?_ | refine seg_on hs.made (fun _ h => h) ?_ ?_ | refine seg_on hs.drew (fun _ h => h) ?_ ?_ | refine seg_on hs.drew.made (fun _ h => h) ?_ ?_ | refine seg_on (hs.drewN _) (fun _ h => h) ?_ ?_)
  · exact fun _ h => by (show sat W [cel z5 35 (opL ⟨6, col, (q0 : Int), r, wide, ⟨fg, bg, fl⟩⟩)] _; refine sb_from ?_ h; repeat constructor)
  clear hs; intro hs
  refine seg_last (fun _ h => by (show sat W [cel z5 35 (opL ⟨6, col, (q0 : Int), r, wide, ⟨fg, bg, fl⟩⟩)] _; refine sb_from ?_ h; repeat constructor)) ?_; intro X f hne hf hcl; (try simp only [Act.put, List.setIfInBounds_toArray, List.set_cons_succ, List.set_cons_zero]); (repeat ((first | ((with_reducible apply ldsq (cs := [.int .u32 fg, .int .u32 bg, .int .u16 fl]) 3 (fun x => (hf x).b0)); exact rfl; exact rfl; exact rfl; exact row33; exact rfl; exact rfl) | ((with_reducible apply ldq (fun x => (hf x).b0)); exact rfl; exact rfl; exact rfl; exact rfl; kernel_rfl) | ((with_reducible apply ldq (fun x => (hf x).b1)); exact rfl; exact rfl; exact rfl; exact rfl; kernel_rfl) | ((with_reducible apply ldq (fun x => (hf x).b2)); exact rfl; exact rfl; exact rfl; exact rfl; kernel_rfl) | ((with_reducible apply ldq (fun x => (hf x).b3)); exact rfl; exact rfl; exact rfl; exact rfl; kernel_rfl) | go_big_quiet_step (fail)); (try simp only [Act.put, List.setIfInBounds_toArray, List.set_cons_succ, List.set_cons_zero]))); refine wpQuiet_nil ?_; clear hcl hf hne hs f X; intro w hs
  go_wp2_with fail
  go_ret
  exact ⟨true, rfl, fun _ => rfl, by refine sb_from ?_ hs; repeat constructor⟩
theorem do10_no {b b2 n nm : Nat} {l m : List C} {kind col q r fg bg fl : Int} {wide : Bool} (k1 : ¬ kind = 1) (k2 : ¬ kind = 2) (k3 : ¬ kind = 3) (k4 : ¬ kind = 4) (k5 : ¬ kind = 5) (k6 : ¬ kind = 6) (hn : l.length = n) (h0 : 0 < n) (h512 : n ≤ 512) (ok : Ok l) (hm : m.length = nm) (m0 : 0 < nm) (m512 : nm ≤ 512) (okm : Ok m) (hs : sat W (rwP 55 b l :: rwP 68 b2 m :: H) w) :
    Calls Try.prog 10 #[.pointer (some ⟨b, 0, none⟩), .pointer (some ⟨b2, 0, none⟩), opV ⟨kind, col, q, r, wide, ⟨fg, bg, fl⟩⟩] w fun e w' => ∃ v, e = .returned (.bool v) ∧ (l = m → v = true) ∧ sat W (rwP 55 b (doG l ⟨kind, col, q, r, wide, ⟨fg, bg, fl⟩⟩).1 :: rwP 68 b2 (doG m ⟨kind, col, q, r, wide, ⟨fg, bg, fl⟩⟩).1 :: H) w' := by
  have HN := Lib.hid hn
  have HM := Lib.hid hm
  have h1000 : n ≤ 1000 := by omega
  have m1000 : nm ≤ 1000 := by omega
  have e1 : (doG l ⟨kind, col, q, r, wide, ⟨fg, bg, fl⟩⟩).1 = l := by simp [doG, k1, k2, k3, k4, k5, k6]
  have e2 : (doG m ⟨kind, col, q, r, wide, ⟨fg, bg, fl⟩⟩).1 = m := by simp [doG, k1, k2, k3, k4, k5, k6]
  rw [e1, e2]
  clear hn hm e1 e2 ok okm
  go_enter Try.func10, Try.ntmps10
  go_wp2_with (first | ((with_reducible refine isl ?_); first | ((with_reducible apply stsw hs.b0); exact rfl; exact rfl; exact rfl; exact rfl; exact row35; exact rfl; exact rfl; exact rfl; clear hs; intro w hs) | ((with_reducible apply ld hs.b0); exact rfl; exact rfl; exact rfl; exact rfl; kernel_rfl) | ((with_reducible apply st hs.b0); exact rfl; exact rfl; exact rfl; exact rfl; exact rfl; exact rfl; kernel_rfl; exact rfl; clear hs; intro w hs) | ((with_reducible apply stc hs.b0); exact rfl; exact rfl; exact rfl; exact rfl; exact rfl; kernel_rfl; exact rfl; clear hs; intro w hs) | ((with_reducible refine wrap hs ?_); clear hs; (first | generalize w.heap.size = z5); intro w hs) | ((with_reducible refine wrap hs ?_); clear hs; intro w hs) | ((with_reducible refine wrapn hs ?_); clear hs; intro w hs) | ((with_reducible refine wrapd hs ?_); clear hs; intro w hs)))
  go_ret
  exact ⟨true, rfl, fun _ => rfl, hs.drop⟩
theorem do10 {b b2 n nm : Nat} {l m : List C} {o : Op} (hn : l.length = n) (h0 : 0 < n) (h512 : n ≤ 512) (ok : Ok l) (hm : m.length = nm) (m0 : 0 < nm) (m512 : nm ≤ 512) (okm : Ok m) (hs : sat W (rwP 55 b l :: rwP 68 b2 m :: H) w) :
    Calls Try.prog 10 #[.pointer (some ⟨b, 0, none⟩), .pointer (some ⟨b2, 0, none⟩), opV o] w fun e w' => ∃ v, e = .returned (.bool v) ∧ (l = m → v = true) ∧ sat W (rwP 55 b (doG l o).1 :: rwP 68 b2 (doG m o).1 :: H) w' := by
  obtain ⟨kind, col, q, r, wide, ⟨fg, bg, fl⟩⟩ := o
  by_cases k1 : kind = 1
  · subst k1; exact do10_1 hn h0 h512 ok hm m0 m512 okm hs
  by_cases k2 : kind = 2
  · subst k2; exact do10_2 hn h0 h512 ok hm m0 m512 okm hs
  by_cases k3 : kind = 3
  · subst k3; exact do10_3 hn h0 h512 ok hm m0 m512 okm hs
  by_cases k4 : kind = 4
  · subst k4; exact do10_4 hn h0 h512 ok hm m0 m512 okm hs
  by_cases k5 : kind = 5
  · subst k5; exact do10_5 hn h0 h512 ok hm m0 m512 okm hs
  by_cases k6 : kind = 6
  · subst k6
    by_cases hq : 1 ≤ q ∧ q ≤ 512
    · obtain ⟨q0, rfl⟩ : ∃ q0 : Nat, q = (q0 : Int) := ⟨q.toNat, by omega⟩
      exact do10_6ok (by omega) (by omega) hn h0 h512 ok hm m0 m512 okm hs
    · exact do10_6no hq hn h0 h512 ok hm m0 m512 okm hs
  exact do10_no k1 k2 k3 k4 k5 k6 hn h0 h512 ok hm m0 m512 okm hs

end Go.Proofs.Yteoeeiinngpogaa
