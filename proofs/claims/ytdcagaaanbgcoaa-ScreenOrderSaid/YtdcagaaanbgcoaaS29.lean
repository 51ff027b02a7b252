/- Law 9: all lines and the margins are the document's. -/
import Derived.Test.YtdcagaaanbgcoaaSf
import Derived.Test.YtdcagaaanbgcoaaS27
import Derived.Test.YtdcagaaanbgcoaaV21
namespace Go.Proofs.Ytdcagaaanbgcoaa
open Go.RowKit Go.Mem Go.Cells Go.Lines
variable {W w : World} {H : List HProp}
attribute [local irreducible] rowTy oneTy World.setCell World.setCells World.alloc World.drew World.drewN Calls sat cel own blk old wpQuiet wpList cmb cmb1 rwP cls rws wi wh fst_ World.rangeAt lrw lnP stP lsP dsP lvs frL downL upL pushs dcP Rds scP
theorem same61 {a5 ad : Option Addr} {m p5 pm : Nat} {l : List C} {qd : List PC} (hl : l.length = m) (hm : m ≤ 1000) (h4 : ∀ c ∈ l, c.comb.length ≤ 4) (hq : qd.map (·.c) = l) (hs : sat W (cls (.slice a5 m p5) l :: own 110 6 (.slice ad m pm) m (rws qd).flatten :: cmb qd :: H) w) :
    Calls Try.prog 61 #[.slice a5 m p5, .slice ad m pm] w fun e w' => e = .returned (.bool true) ∧ sat W (own 110 6 (.slice ad m pm) m (rws qd).flatten :: cmb qd :: H) w' := by
  obtain ⟨qs, hqs, hs⟩ := cls_open hl hs
  have R1 := RC.mk hs
  have R2 : RC W (own 110 6 (.slice a5 m p5) m (rws qs).flatten :: cmb qs :: own 110 6 (.slice ad m pm) m (rws qd).flatten :: cmb qd :: H) ad m pm (qd.map (·.c)) := (RC.mk hs.drop.drop).mono fun w' h => h.drop.drop
  rw [hqs] at R1
  rw [hq] at R2
  refine (same15_yes hm (fun c hc => by have := h4 c hc; omega) R1 R2 hs).mono ?_
  rintro e w' ⟨rfl, h⟩
  exact ⟨rfl, h.drop.drop⟩
section
variable {most : Nat} {X : Sc} {nx : Int} {SL : List LN} {b s d v : Nat} {id : Int}
set_option maxHeartbeats 2000000 in
set_option maxRecDepth 20000 in
theorem same34 (hX : Inv most X nx SL) (hs : sat W (scP b s X :: dcP d v X :: H) w) :
    Calls Try.prog 34 #[.pointer (some ⟨b, 0, none⟩), .pointer (some ⟨d, 0, none⟩), .int .i64 id] w fun e w' => e = .returned (.bool true) ∧ sat W (scP b s X :: dcP d v X :: H) w' := by
  have n0 := hX.n0
  have n5 := hX.n5
  have HOK := Lib.hid hX.ok
  have HLK := Lib.hid hX.lok
  have c5 := hX.c5
  obtain ⟨keeps, cc, top, bot, L⟩ := X
  dsimp only at n0 n5 c5 HOK HLK
  obtain ⟨N, hN⟩ : ∃ N, L.length = N := ⟨_, rfl⟩
  rw [hN] at n0 n5
  have HN := Lib.hid hN
  obtain ⟨ps, g, p, HO, hs⟩ := sc_open' hN n0 hs
  obtain ⟨pd, a2, p2, HO2, hs⟩ := dc_open hN (by refine sb_from ?_ hs; repeat constructor : sat W (dcP d v ⟨keeps, cc, top, bot, L⟩ :: cel b 46 [.pointer (some ⟨s, 0, none⟩), .bool keeps, .int .i64 cc, .slice (some ⟨g, 0, none⟩) N p, .int .i64 top, .int .i64 bot] :: own 81 2 (.slice (some ⟨g, 0, none⟩) N p) N (lvs ps).flatten :: lrw 96 ps :: H) w)
  obtain ⟨g2, rfl⟩ := own_ptr n0 hs.b1
  have HN5 : Hid (N ≤ 512) := Lib.hid (by omega)
  clear hN hX
  go_enter Try.func34, Try.ntmps34
  go_upto_region 2 with ((go_at_call 10; refine (smargins10 n0 (by (apply sk_from (hs := hs); repeat constructor))).mono ?_; clear hs; rintro e w ⟨rfl, hs⟩))
  simp only [List.append]
  refine region_mix [([0, 2, 3, 4, 5, 6], [1]), ([7, 8, 9, 11, 12, 13, 14], [10]), ([15, 16, 17, 18, 19, 20, 21, 22, 23, 24, 25, 26, 27, 28, 29, 30, 31, 32, 33, 34, 35, 37, 38], [36]), ([], [39]), ([40, 41, 42, 43], [44]), ([45, 46, 47, 48, 49, 50, 51, 52, 53], [54]), ([55, 56, 57, 58], [59]), ([60, 61, 62, 63, 64, 65, 66, 67, 68], [69])] [70, 71] hs (fun _ h => by (show sat W [cel d 85 [.pointer (some ⟨v, 0, none⟩), .bool keeps, .int .i64 cc, .slice (some ⟨g2, 0, none⟩) N p2, .int .i64 top, .int .i64 bot]] _; refine sb_from ?_ h; repeat constructor)) (by kernel_rfl) (by kernel_rfl) (fun _ _ _ _ _ h => h) ?_
  simp only [segs, nths, nth, List.append_nil, List.nil_append, List.cons_append, List.map_cons, List.map_nil]
  refine seg_reads (fun _ h => by (show sat W [cel d 85 [.pointer (some ⟨v, 0, none⟩), .bool keeps, .int .i64 cc, .slice (some ⟨g2, 0, none⟩) N p2, .int .i64 top, .int .i64 bot]] _; refine sb_from ?_ h; repeat constructor)) ?_; intro X f hne hf hcl; (try simp only [Act.put, List.setIfInBounds_toArray, List.set_cons_succ, List.set_cons_zero]); (repeat ((first | ((with_reducible apply ldqx); exact rfl; exact rfl; exact rfl; (exact fun x => (hf x).b0); exact rfl; kernel_rfl) | go_big_quiet_step (fail)); (try simp only [Act.put, List.setIfInBounds_toArray, List.set_cons_succ, List.set_cons_zero]))); refine wpQuiet_nil ?_; clear hcl hf hne hs f X; intro w hs
  go_wp2_with ((go_at_call 20; refine (srows20 n0 (by (apply sk_from (hs := hs); repeat constructor))).mono ?_; clear hs; rintro e w ⟨rfl, hs⟩))
  (refine seg_on hs (fun _ h => h) ?_ ?_)
  · exact fun _ h => by (show sat W [cel d 85 [.pointer (some ⟨v, 0, none⟩), .bool keeps, .int .i64 cc, .slice (some ⟨g2, 0, none⟩) N p2, .int .i64 top, .int .i64 bot]] _; refine sb_from ?_ h; repeat constructor)
  clear hs; intro hs
  refine seg_reads (fun _ h => by (show sat W [cel d 85 [.pointer (some ⟨v, 0, none⟩), .bool keeps, .int .i64 cc, .slice (some ⟨g2, 0, none⟩) N p2, .int .i64 top, .int .i64 bot]] _; refine sb_from ?_ h; repeat constructor)) ?_; intro X f hne hf hcl; (try simp only [Act.put, List.setIfInBounds_toArray, List.set_cons_succ, List.set_cons_zero]); (repeat ((first | ((with_reducible apply ldqx); exact rfl; exact rfl; exact rfl; (exact fun x => (hf x).b0); exact rfl; kernel_rfl) | go_big_quiet_step (fail)); (try simp only [Act.put, List.setIfInBounds_toArray, List.set_cons_succ, List.set_cons_zero]))); refine wpQuiet_nil ?_; clear hcl hf hne hs f X; intro w hs
  go_wp2_with ((go_at_call 21; refine (scols21 n0 (by (apply sk_from (hs := hs); repeat constructor))).mono ?_; clear hs; rintro e w ⟨rfl, hs⟩))
  (refine seg_on hs (fun _ h => h) ?_ ?_)
  · exact fun _ h => by (show sat W [cel d 85 [.pointer (some ⟨v, 0, none⟩), .bool keeps, .int .i64 cc, .slice (some ⟨g2, 0, none⟩) N p2, .int .i64 top, .int .i64 bot]] _; refine sb_from ?_ h; repeat constructor)
  clear hs; intro hs
  refine seg_reads (fun _ h => by (show sat W [cel d 85 [.pointer (some ⟨v, 0, none⟩), .bool keeps, .int .i64 cc, .slice (some ⟨g2, 0, none⟩) N p2, .int .i64 top, .int .i64 bot]] _; refine sb_from ?_ h; repeat constructor)) ?_; intro X f hne hf hcl; (try simp only [Act.put, List.setIfInBounds_toArray, List.set_cons_succ, List.set_cons_zero]); (repeat ((first | ((with_reducible apply ldqx); exact rfl; exact rfl; exact rfl; (exact fun x => (hf x).b0); exact rfl; kernel_rfl) | go_big_quiet_step (fail)); (try simp only [Act.put, List.setIfInBounds_toArray, List.set_cons_succ, List.set_cons_zero]))); refine wpQuiet_nil ?_; clear hcl hf hne hs f X; intro w hs
  go_wp2_with ((go_at_call 24; refine (sfind24 n0 HN5.out HO (by (apply sk_from (hs := hs); repeat constructor))).mono ?_; clear hs; rintro e w ⟨rfl, hs⟩))
  (refine seg_on hs (fun _ h => h) ?_ ?_)
  · exact fun _ h => by (show sat W [cel d 85 [.pointer (some ⟨v, 0, none⟩), .bool keeps, .int .i64 cc, .slice (some ⟨g2, 0, none⟩) N p2, .int .i64 top, .int .i64 bot]] _; refine sb_from ?_ h; repeat constructor)
  clear hs; intro hs
  refine seg_reads (fun _ h => by (show sat W [cel d 85 [.pointer (some ⟨v, 0, none⟩), .bool keeps, .int .i64 cc, .slice (some ⟨g2, 0, none⟩) N p2, .int .i64 top, .int .i64 bot]] _; refine sb_from ?_ h; repeat constructor)) ?_; intro X f hne hf hcl; (try simp only [Act.put, List.setIfInBounds_toArray, List.set_cons_succ, List.set_cons_zero]); (repeat ((fail); (try simp only [Act.put, List.setIfInBounds_toArray, List.set_cons_succ, List.set_cons_zero]))); refine wpQuiet_nil ?_; clear hcl hf hne hs f X; intro w hs
  go_wp2_with ((go_at_call 60; refine (dfind60o HO2 n0 HN5.out (by (apply sk_from (hs := hs); repeat constructor))).mono ?_; clear hs; rintro e w ⟨rfl, hs⟩))
  (refine seg_on hs (fun _ h => h) ?_ ?_)
  · exact fun _ h => by (show sat W [cel d 85 [.pointer (some ⟨v, 0, none⟩), .bool keeps, .int .i64 cc, .slice (some ⟨g2, 0, none⟩) N p2, .int .i64 top, .int .i64 bot]] _; refine sb_from ?_ h; repeat constructor)
  clear hs; intro hs
  refine seg_reads (fun _ h => by (show sat W [cel d 85 [.pointer (some ⟨v, 0, none⟩), .bool keeps, .int .i64 cc, .slice (some ⟨g2, 0, none⟩) N p2, .int .i64 top, .int .i64 bot]] _; refine sb_from ?_ h; repeat constructor)) ?_; intro X f hne hf hcl; (try simp only [Act.put, List.setIfInBounds_toArray, List.set_cons_succ, List.set_cons_zero]); (repeat ((go_big_quiet_step (fail)); (try simp only [Act.put, List.setIfInBounds_toArray, List.set_cons_succ, List.set_cons_zero]))); refine wpQuiet_nil ?_; clear hcl hf hne hs f X; intro w hs
  go_wp2_with ((go_at_call 22; refine (sid22_no n0 (by first | exact .inl (by decide)) (by (apply sk_from (hs := hs); repeat constructor))).mono ?_; clear hs; rintro e w ⟨rfl, hs⟩))
  (refine seg_on hs (fun _ h => h) ?_ ?_)
  · exact fun _ h => by (show sat W [cel d 85 [.pointer (some ⟨v, 0, none⟩), .bool keeps, .int .i64 cc, .slice (some ⟨g2, 0, none⟩) N p2, .int .i64 top, .int .i64 bot]] _; refine sb_from ?_ h; repeat constructor)
  clear hs; intro hs
  refine seg_reads (fun _ h => by (show sat W [cel d 85 [.pointer (some ⟨v, 0, none⟩), .bool keeps, .int .i64 cc, .slice (some ⟨g2, 0, none⟩) N p2, .int .i64 top, .int .i64 bot]] _; refine sb_from ?_ h; repeat constructor)) ?_; intro X f hne hf hcl; (try simp only [Act.put, List.setIfInBounds_toArray, List.set_cons_succ, List.set_cons_zero]); (repeat ((first | ((with_reducible apply ldqx); exact rfl; exact rfl; exact rfl; (exact fun x => (hf x).b0); exact rfl; kernel_rfl) | go_big_quiet_step (fail)); (try simp only [Act.put, List.setIfInBounds_toArray, List.set_cons_succ, List.set_cons_zero]))); refine wpQuiet_nil ?_; clear hcl hf hne hs f X; intro w hs
  go_wp2_with ((go_at_call 22; refine (sid22_no n0 (by first | exact .inr (Int.le_refl _)) (by (apply sk_from (hs := hs); repeat constructor))).mono ?_; clear hs; rintro e w ⟨rfl, hs⟩))
  (refine seg_on hs (fun _ h => h) ?_ ?_)
  · exact fun _ h => by (show sat W [cel d 85 [.pointer (some ⟨v, 0, none⟩), .bool keeps, .int .i64 cc, .slice (some ⟨g2, 0, none⟩) N p2, .int .i64 top, .int .i64 bot]] _; refine sb_from ?_ h; repeat constructor)
  clear hs; intro hs
  refine seg_reads (fun _ h => by (show sat W [cel d 85 [.pointer (some ⟨v, 0, none⟩), .bool keeps, .int .i64 cc, .slice (some ⟨g2, 0, none⟩) N p2, .int .i64 top, .int .i64 bot]] _; refine sb_from ?_ h; repeat constructor)) ?_; intro X f hne hf hcl; (try simp only [Act.put, List.setIfInBounds_toArray, List.set_cons_succ, List.set_cons_zero]); (repeat ((go_big_quiet_step (fail)); (try simp only [Act.put, List.setIfInBounds_toArray, List.set_cons_succ, List.set_cons_zero]))); refine wpQuiet_nil ?_; clear hcl hf hne hs f X; intro w hs
  go_wp2_with ((go_at_call 23; refine (srow23_no n0 (by first | exact .inl (by decide)) (by (apply sk_from (hs := hs); repeat constructor))).mono ?_; clear hs; rintro e w ⟨rfl, hs⟩))
  (refine seg_on hs (fun _ h => h) ?_ ?_)
  · exact fun _ h => by (show sat W [cel d 85 [.pointer (some ⟨v, 0, none⟩), .bool keeps, .int .i64 cc, .slice (some ⟨g2, 0, none⟩) N p2, .int .i64 top, .int .i64 bot]] _; refine sb_from ?_ h; repeat constructor)
  clear hs; intro hs
  refine seg_reads (fun _ h => by (show sat W [cel d 85 [.pointer (some ⟨v, 0, none⟩), .bool keeps, .int .i64 cc, .slice (some ⟨g2, 0, none⟩) N p2, .int .i64 top, .int .i64 bot]] _; refine sb_from ?_ h; repeat constructor)) ?_; intro X f hne hf hcl; (try simp only [Act.put, List.setIfInBounds_toArray, List.set_cons_succ, List.set_cons_zero]); (repeat ((first | ((with_reducible apply ldqx); exact rfl; exact rfl; exact rfl; (exact fun x => (hf x).b0); exact rfl; kernel_rfl) | go_big_quiet_step (fail)); (try simp only [Act.put, List.setIfInBounds_toArray, List.set_cons_succ, List.set_cons_zero]))); refine wpQuiet_nil ?_; clear hcl hf hne hs f X; intro w hs
  go_wp2_with ((go_at_call 23; refine (srow23_no n0 (by first | exact .inr (Int.le_refl _)) (by (apply sk_from (hs := hs); repeat constructor))).mono ?_; clear hs; rintro e w ⟨rfl, hs⟩))
  (refine seg_on hs (fun _ h => h) ?_ ?_)
  · exact fun _ h => by (show sat W [cel d 85 [.pointer (some ⟨v, 0, none⟩), .bool keeps, .int .i64 cc, .slice (some ⟨g2, 0, none⟩) N p2, .int .i64 top, .int .i64 bot]] _; refine sb_from ?_ h; repeat constructor)
  clear hs; intro hs
  refine seg_last (fun _ h => by (show sat W [cel d 85 [.pointer (some ⟨v, 0, none⟩), .bool keeps, .int .i64 cc, .slice (some ⟨g2, 0, none⟩) N p2, .int .i64 top, .int .i64 bot]] _; refine sb_from ?_ h; repeat constructor)) ?_; intro X f hne hf hcl; (try simp only [Act.put, List.setIfInBounds_toArray, List.set_cons_succ, List.set_cons_zero]); (repeat ((go_big_quiet_step (fail)); (try simp only [Act.put, List.setIfInBounds_toArray, List.set_cons_succ, List.set_cons_zero]))); refine wpQuiet_nil ?_; clear hcl hf hne hs f X; intro w hs
  go_wp2_with (((with_reducible refine isl ?_); first | ((with_reducible apply ldx); exact rfl; exact rfl; exact rfl; (exact hs.b1); exact rfl; kernel_rfl)))
  go_loopw [92] (fun i wx => ∃ i0 : Nat, i0 ≤ N ∧ i = .int .i64 (i0 : Int) ∧ sat W (cel b 46 [.pointer (some ⟨s, 0, none⟩), .bool keeps, .int .i64 cc, .slice (some ⟨g, 0, none⟩) N p, .int .i64 top, .int .i64 bot] :: own 81 2 (.slice (some ⟨g, 0, none⟩) N p) N (lvs ps).flatten :: lrw 96 ps :: cel d 85 [.pointer (some ⟨v, 0, none⟩), .bool keeps, .int .i64 cc, .slice (some ⟨g2, 0, none⟩) N p2, .int .i64 top, .int .i64 bot] :: own 93 2 (.slice (some ⟨g2, 0, none⟩) N p2) N (lvs pd).flatten :: lrw 100 pd :: H) wx) (fun i _ => ((N : Int) - intOf i).toNat)
  case atStart => exact ⟨0, Nat.zero_le _, rfl, by refine sb_from ?_ hs; repeat constructor⟩
  case round =>
    clear hs
    obtain ⟨i, hi, rfl, hs⟩ := hrel
    by_cases hin : i < N
    · have hin2 : (i : Int) < (N : Int) := by omega
      have HCI := Lib.hid hin
      obtain ⟨⟨xid, xb, xl⟩, hp⟩ : ∃ x, ps[i]? = some x := ⟨_, List.getElem?_eq_getElem (by rw [HO.out.2]; exact hin)⟩
      obtain ⟨⟨yid, yb, yl⟩, hq⟩ : ∃ x, pd[i]? = some x := ⟨_, List.getElem?_eq_getElem (by rw [HO2.out.2]; exact hin)⟩
      have hx : L[i]? = some (xid, xl) := by rw [← HO.out.1, List.getElem?_map, hp]; rfl
      obtain ⟨rfl, rfl⟩ : yid = xid ∧ yl = xl := by
        have h1 := hx
        rw [← HO2.out.1, List.getElem?_map, hq] at h1
        have h2 := Option.some.inj h1
        exact ⟨congrArg Prod.fst h2, congrArg Prod.snd h2⟩
      obtain ⟨m0, m1, m2⟩ := HLK.out _ (List.mem_of_getElem? hx)
      simp only at m0 m1 m2
      obtain ⟨mm, hmm⟩ : ∃ mm, yl.length = mm := ⟨_, rfl⟩
      rw [hmm] at m0 m1
      have HLL := Lib.hid hmm
      have H4 := Lib.hid m2.m4
      have HX := Lib.hid hp
      have HQ := Lib.hid hq
      have HX0 := Lib.hid (lvs_at hq).1
      have HX1 := Lib.hid (lvs_at hq).2
      have hs1 := lrw_at hp (by refine sb_from ?_ hs; repeat constructor : sat W (lrw 96 ps :: cel d 85 [.pointer (some ⟨v, 0, none⟩), .bool keeps, .int .i64 cc, .slice (some ⟨g2, 0, none⟩) N p2, .int .i64 top, .int .i64 bot] :: own 93 2 (.slice (some ⟨g2, 0, none⟩) N p2) N (lvs pd).flatten :: lrw 100 pd :: cel b 46 [.pointer (some ⟨s, 0, none⟩), .bool keeps, .int .i64 cc, .slice (some ⟨g, 0, none⟩) N p, .int .i64 top, .int .i64 bot] :: own 81 2 (.slice (some ⟨g, 0, none⟩) N p) N (lvs ps).flatten :: H) wr)
      have hs2 := lrw_at hq (by refine sb_from ?_ hs1; repeat constructor : sat W (lrw 100 pd :: rwP 96 xb yl :: lrw 96 (ps.take i) :: lrw 96 (ps.drop (i + 1)) :: cel d 85 [.pointer (some ⟨v, 0, none⟩), .bool keeps, .int .i64 cc, .slice (some ⟨g2, 0, none⟩) N p2, .int .i64 top, .int .i64 bot] :: own 93 2 (.slice (some ⟨g2, 0, none⟩) N p2) N (lvs pd).flatten :: cel b 46 [.pointer (some ⟨s, 0, none⟩), .bool keeps, .int .i64 cc, .slice (some ⟨g, 0, none⟩) N p, .int .i64 top, .int .i64 bot] :: own 81 2 (.slice (some ⟨g, 0, none⟩) N p) N (lvs ps).flatten :: H) wr)
      obtain ⟨qd, ad, pm, hqd, hs3⟩ := rw_open (T := 100) (b := yb) HLL.out hs2
      obtain ⟨gd, rfl⟩ := own_ptr m0 hs3.b1
      have HQD : Hid (qd.length = mm ∧ qd.map (·.c) = yl) := Lib.hid ⟨by rw [← HLL.out, ← hqd, List.length_map], hqd⟩
      clear hs hs1 hs2 hqd hp hq hx m2 hmm
      have hs : sat W (cel d 85 [.pointer (some ⟨v, 0, none⟩), .bool keeps, .int .i64 cc, .slice (some ⟨g2, 0, none⟩) N p2, .int .i64 top, .int .i64 bot] :: own 93 2 (.slice (some ⟨g2, 0, none⟩) N p2) N (lvs pd).flatten :: cel b 46 [.pointer (some ⟨s, 0, none⟩), .bool keeps, .int .i64 cc, .slice (some ⟨g, 0, none⟩) N p, .int .i64 top, .int .i64 bot] :: own 81 2 (.slice (some ⟨g, 0, none⟩) N p) N (lvs ps).flatten :: cel yb 100 [.slice (some ⟨gd, 0, none⟩) mm pm] :: own 110 6 (.slice (some ⟨gd, 0, none⟩) mm pm) mm (rws qd).flatten :: cmb qd :: rwP 96 xb yl :: lrw 96 (ps.take i) :: lrw 96 (ps.drop (i + 1)) :: lrw 100 (pd.take i) :: lrw 100 (pd.drop (i + 1)) :: H) wr := by refine sb_from ?_ hs3; repeat constructor
      clear hs3
      go_upto_region 7 with fail
      refine region_mix [([0, 1, 3, 4, 5, 6, 7, 8, 9, 10], [2]), ([11, 12, 13, 14, 17, 18, 19, 20, 21, 22, 23, 24, 25, 26, 27], [15]), ([], [16]), ([], [28])] [29, 30] hs (fun _ h => by (show sat W [cel d 85 [.pointer (some ⟨v, 0, none⟩), .bool keeps, .int .i64 cc, .slice (some ⟨g2, 0, none⟩) N p2, .int .i64 top, .int .i64 bot], own 93 2 (.slice (some ⟨g2, 0, none⟩) N p2) N (lvs pd).flatten, cel yb 100 [.slice (some ⟨gd, 0, none⟩) mm pm]] _; refine sb_from ?_ h; repeat constructor)) (by kernel_rfl) (by kernel_rfl) (fun _ _ _ _ _ h => h) ?_
      simp only [segs, nths, nth, List.append_nil, List.nil_append, List.cons_append, List.map_cons, List.map_nil]
      refine seg_reads (fun _ h => by (show sat W [cel d 85 [.pointer (some ⟨v, 0, none⟩), .bool keeps, .int .i64 cc, .slice (some ⟨g2, 0, none⟩) N p2, .int .i64 top, .int .i64 bot], own 93 2 (.slice (some ⟨g2, 0, none⟩) N p2) N (lvs pd).flatten, cel yb 100 [.slice (some ⟨gd, 0, none⟩) mm pm]] _; refine sb_from ?_ h; repeat constructor)) ?_; intro X f hne hf hcl; (try simp only [Act.put, List.setIfInBounds_toArray, List.set_cons_succ, List.set_cons_zero]); (repeat ((first | ((with_reducible apply ldoq (fun x => (hf x).b1)); exact rfl; exact rfl; exact rfl; (exact HX0.out); (exact one3)) | ((with_reducible apply ldqx); exact rfl; exact rfl; exact rfl; (exact fun x => (hf x).b0); exact rfl; kernel_rfl) | go_big_quiet_step (fail)); (try simp only [Act.put, List.setIfInBounds_toArray, List.set_cons_succ, List.set_cons_zero]))); refine wpQuiet_nil ?_; clear hcl hf hne hs f X; intro w hs
      go_wp2_with ((go_at_call 22; refine (sid22 HX.out HCI.out (by (apply sk_from (hs := hs); repeat constructor))).mono ?_; clear hs; rintro e w ⟨rfl, hs⟩))
      (refine seg_on hs (fun _ h => h) ?_ ?_)
      · exact fun _ h => by (show sat W [cel d 85 [.pointer (some ⟨v, 0, none⟩), .bool keeps, .int .i64 cc, .slice (some ⟨g2, 0, none⟩) N p2, .int .i64 top, .int .i64 bot], own 93 2 (.slice (some ⟨g2, 0, none⟩) N p2) N (lvs pd).flatten, cel yb 100 [.slice (some ⟨gd, 0, none⟩) mm pm]] _; refine sb_from ?_ h; repeat constructor)
      clear hs; intro hs
      refine seg_reads (fun _ h => by (show sat W [cel d 85 [.pointer (some ⟨v, 0, none⟩), .bool keeps, .int .i64 cc, .slice (some ⟨g2, 0, none⟩) N p2, .int .i64 top, .int .i64 bot], own 93 2 (.slice (some ⟨g2, 0, none⟩) N p2) N (lvs pd).flatten, cel yb 100 [.slice (some ⟨gd, 0, none⟩) mm pm]] _; refine sb_from ?_ h; repeat constructor)) ?_; intro X f hne hf hcl; (try simp only [Act.put, List.setIfInBounds_toArray, List.set_cons_succ, List.set_cons_zero]); (repeat ((first | ((with_reducible apply ldoq (fun x => (hf x).b1)); exact rfl; exact rfl; exact rfl; (exact HX1.out); (exact one91)) | ((with_reducible apply ldqx); exact rfl; exact rfl; exact rfl; (first | exact fun x => (hf x).b0 | exact fun x => (hf x).b2); exact rfl; kernel_rfl) | go_big_quiet_step (fail)); (try simp only [Act.put, List.setIfInBounds_toArray, List.set_cons_succ, List.set_cons_zero]))); refine wpQuiet_nil ?_; clear hcl hf hne hs f X; intro w hs
      go_wp2_with ((go_at_call 23; refine (srow23 HX.out HCI.out (by (apply sk_from (hs := hs); repeat constructor))).mono ?_; clear hs; rintro e w ⟨rfl, hs⟩))
      (refine seg_on hs (fun _ h => h) ?_ ?_)
      · exact fun _ h => by (show sat W [cel d 85 [.pointer (some ⟨v, 0, none⟩), .bool keeps, .int .i64 cc, .slice (some ⟨g2, 0, none⟩) N p2, .int .i64 top, .int .i64 bot], own 93 2 (.slice (some ⟨g2, 0, none⟩) N p2) N (lvs pd).flatten, cel yb 100 [.slice (some ⟨gd, 0, none⟩) mm pm]] _; refine sb_from ?_ h; repeat constructor)
      clear hs; intro hs
      refine seg_reads (fun _ h => by (show sat W [cel d 85 [.pointer (some ⟨v, 0, none⟩), .bool keeps, .int .i64 cc, .slice (some ⟨g2, 0, none⟩) N p2, .int .i64 top, .int .i64 bot], own 93 2 (.slice (some ⟨g2, 0, none⟩) N p2) N (lvs pd).flatten, cel yb 100 [.slice (some ⟨gd, 0, none⟩) mm pm]] _; refine sb_from ?_ h; repeat constructor)) ?_; intro X f hne hf hcl; (try simp only [Act.put, List.setIfInBounds_toArray, List.set_cons_succ, List.set_cons_zero]); (repeat ((fail); (try simp only [Act.put, List.setIfInBounds_toArray, List.set_cons_succ, List.set_cons_zero]))); refine wpQuiet_nil ?_; clear hcl hf hne hs f X; intro w hs
      go_wp2_with ((go_at_call 62; refine (cells11 HLL.out m0 (by omega) H4.out (by (apply sk_from (hs := hs); repeat constructor))).mono ?_; clear hs; rintro e w ⟨a5, p5, rfl, hs⟩))
      (refine seg_on hs (fun _ h => h) ?_ ?_)
      · exact fun _ h => by (show sat W [cel d 85 [.pointer (some ⟨v, 0, none⟩), .bool keeps, .int .i64 cc, .slice (some ⟨g2, 0, none⟩) N p2, .int .i64 top, .int .i64 bot], own 93 2 (.slice (some ⟨g2, 0, none⟩) N p2) N (lvs pd).flatten, cel yb 100 [.slice (some ⟨gd, 0, none⟩) mm pm]] _; refine sb_from ?_ h; repeat constructor)
      clear hs; intro hs
      refine seg_reads (fun _ h => by (show sat W [cel d 85 [.pointer (some ⟨v, 0, none⟩), .bool keeps, .int .i64 cc, .slice (some ⟨g2, 0, none⟩) N p2, .int .i64 top, .int .i64 bot], own 93 2 (.slice (some ⟨g2, 0, none⟩) N p2) N (lvs pd).flatten, cel yb 100 [.slice (some ⟨gd, 0, none⟩) mm pm]] _; refine sb_from ?_ h; repeat constructor)) ?_; intro X f hne hf hcl; (try simp only [Act.put, List.setIfInBounds_toArray, List.set_cons_succ, List.set_cons_zero]); (repeat ((fail); (try simp only [Act.put, List.setIfInBounds_toArray, List.set_cons_succ, List.set_cons_zero]))); refine wpQuiet_nil ?_; clear hcl hf hne hs f X; intro w hs
      go_wp2_with ((go_at_call 61; refine (same61 HLL.out (by omega) H4.out HQD.out.2 (by (apply sk_from (hs := hs); repeat constructor))).mono ?_; clear hs; rintro e w ⟨rfl, hs⟩))
      (refine seg_on hs (fun _ h => h) ?_ ?_)
      · exact fun _ h => by (show sat W [cel d 85 [.pointer (some ⟨v, 0, none⟩), .bool keeps, .int .i64 cc, .slice (some ⟨g2, 0, none⟩) N p2, .int .i64 top, .int .i64 bot], own 93 2 (.slice (some ⟨g2, 0, none⟩) N p2) N (lvs pd).flatten, cel yb 100 [.slice (some ⟨gd, 0, none⟩) mm pm]] _; refine sb_from ?_ h; repeat constructor)
      clear hs; intro hs
      refine seg_last (fun _ h => by (show sat W [cel d 85 [.pointer (some ⟨v, 0, none⟩), .bool keeps, .int .i64 cc, .slice (some ⟨g2, 0, none⟩) N p2, .int .i64 top, .int .i64 bot], own 93 2 (.slice (some ⟨g2, 0, none⟩) N p2) N (lvs pd).flatten, cel yb 100 [.slice (some ⟨gd, 0, none⟩) mm pm]] _; refine sb_from ?_ h; repeat constructor)) ?_; intro X f hne hf hcl; (try simp only [Act.put, List.setIfInBounds_toArray, List.set_cons_succ, List.set_cons_zero]); (repeat ((go_big_quiet_step (fail)); (try simp only [Act.put, List.setIfInBounds_toArray, List.set_cons_succ, List.set_cons_zero]))); refine wpQuiet_nil ?_; clear hcl hf hne hs f X; intro w hs
      go_wp2_with fail
      go_roundw
      case rel =>
        refine ⟨i + 1, by omega, by go_num, ?_⟩
        have h6 := rw_close HQD.out.1 (by refine sb_from ?_ hs; repeat constructor : sat W (cel yb 100 [.slice (some ⟨gd, 0, none⟩) mm pm] :: own 110 6 (.slice (some ⟨gd, 0, none⟩) mm pm) mm (rws qd).flatten :: cmb qd :: rwP 96 xb yl :: lrw 96 (ps.take i) :: lrw 96 (ps.drop (i + 1)) :: lrw 100 (pd.take i) :: lrw 100 (pd.drop (i + 1)) :: cel b 46 [.pointer (some ⟨s, 0, none⟩), .bool keeps, .int .i64 cc, .slice (some ⟨g, 0, none⟩) N p, .int .i64 top, .int .i64 bot] :: own 81 2 (.slice (some ⟨g, 0, none⟩) N p) N (lvs ps).flatten :: cel d 85 [.pointer (some ⟨v, 0, none⟩), .bool keeps, .int .i64 cc, .slice (some ⟨g2, 0, none⟩) N p2, .int .i64 top, .int .i64 bot] :: own 93 2 (.slice (some ⟨g2, 0, none⟩) N p2) N (lvs pd).flatten :: H) w)
        rw [HQD.out.2] at h6
        have h7 := lrw_put (l := ps) (y := ⟨yid, xb, yl⟩) (List.getElem?_eq_some_iff.1 HX.out).1 (by refine sb_from ?_ h6; repeat constructor : sat W (rwP 96 xb yl :: lrw 96 (ps.take i) :: lrw 96 (ps.drop (i + 1)) :: rwP 100 yb yl :: lrw 100 (pd.take i) :: lrw 100 (pd.drop (i + 1)) :: cel b 46 [.pointer (some ⟨s, 0, none⟩), .bool keeps, .int .i64 cc, .slice (some ⟨g, 0, none⟩) N p, .int .i64 top, .int .i64 bot] :: own 81 2 (.slice (some ⟨g, 0, none⟩) N p) N (lvs ps).flatten :: cel d 85 [.pointer (some ⟨v, 0, none⟩), .bool keeps, .int .i64 cc, .slice (some ⟨g2, 0, none⟩) N p2, .int .i64 top, .int .i64 bot] :: own 93 2 (.slice (some ⟨g2, 0, none⟩) N p2) N (lvs pd).flatten :: H) w)
        have h8 := lrw_put (l := pd) (y := ⟨yid, yb, yl⟩) (List.getElem?_eq_some_iff.1 HQ.out).1 (by refine sb_from ?_ h7; repeat constructor : sat W (rwP 100 yb yl :: lrw 100 (pd.take i) :: lrw 100 (pd.drop (i + 1)) :: lrw 96 (ps.set i ⟨yid, xb, yl⟩) :: cel b 46 [.pointer (some ⟨s, 0, none⟩), .bool keeps, .int .i64 cc, .slice (some ⟨g, 0, none⟩) N p, .int .i64 top, .int .i64 bot] :: own 81 2 (.slice (some ⟨g, 0, none⟩) N p) N (lvs ps).flatten :: cel d 85 [.pointer (some ⟨v, 0, none⟩), .bool keeps, .int .i64 cc, .slice (some ⟨g2, 0, none⟩) N p2, .int .i64 top, .int .i64 bot] :: own 93 2 (.slice (some ⟨g2, 0, none⟩) N p2) N (lvs pd).flatten :: H) w)
        rw [set_same HX.out, set_same HQ.out] at h8
        refine sb_from ?_ h8; repeat constructor
      case measure => simp [intOf]; omega
    · have hge : ¬ (i : Int) < (N : Int) := by omega
      clear hin
      go_wp2_with (fail)
      go_ret
      have h1 := sc_close HO (by refine sb_from ?_ hs; repeat constructor : sat W (cel b 46 [.pointer (some ⟨s, 0, none⟩), .bool keeps, .int .i64 cc, .slice (some ⟨g, 0, none⟩) N p, .int .i64 top, .int .i64 bot] :: own 81 2 (.slice (some ⟨g, 0, none⟩) N p) N (lvs ps).flatten :: lrw 96 ps :: cel d 85 [.pointer (some ⟨v, 0, none⟩), .bool keeps, .int .i64 cc, .slice (some ⟨g2, 0, none⟩) N p2, .int .i64 top, .int .i64 bot] :: own 93 2 (.slice (some ⟨g2, 0, none⟩) N p2) N (lvs pd).flatten :: lrw 100 pd :: H) wr)
      have h2 := dc_close HO2 (by refine sb_from ?_ h1; repeat constructor : sat W (cel d 85 [.pointer (some ⟨v, 0, none⟩), .bool keeps, .int .i64 cc, .slice (some ⟨g2, 0, none⟩) N p2, .int .i64 top, .int .i64 bot] :: own 93 2 (.slice (some ⟨g2, 0, none⟩) N p2) N (lvs pd).flatten :: lrw 100 pd :: scP b s ⟨keeps, cc, top, bot, L⟩ :: H) wr)
      exact ⟨rfl, by refine sb_from ?_ h2; repeat constructor⟩
end
end Go.Proofs.Ytdcagaaanbgcoaa
