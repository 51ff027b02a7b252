/- Law 9: the document's screen in memory; fresh lines; New, Find, SetMargins. -/
import Derived.Test.YtdcagaaanbgcoaaSf
import Derived.Test.YtdcagaaanbgcoaaS12
import Derived.Test.YtdcagaaanbgcoaaL12
namespace Go.Proofs.Ytdcagaaanbgcoaa
open Go.RowKit Go.Mem Go.Cells Go.Lines
variable {W w : World} {H : List HProp}
/-- The document's screen. -/
def dcP (d v : Nat) (x : Sc) : HProp := fun h => ∃ (a : Option Addr) (p : Nat), star (cel d 85 [.pointer (some ⟨v, 0, none⟩), .bool x.keeps, .int .i64 x.cols, .slice a x.L.length p, .int .i64 x.top, .int .i64 x.bot]) (lnP 93 100 (.slice a x.L.length p) x.L) h
theorem dc_open {d v n : Nat} {keeps : Bool} {cols : Nat} {top bot : Int} {L : List LN} (hn : L.length = n) (hs : sat W (dcP d v ⟨keeps, cols, top, bot, L⟩ :: H) w) : ∃ (ps : List PL) (a : Option Addr) (p : Nat), Hid (ps.map PL.ln = L ∧ ps.length = n) ∧ sat W (cel d 85 [.pointer (some ⟨v, 0, none⟩), .bool keeps, .int .i64 cols, .slice a n p, .int .i64 top, .int .i64 bot] :: own 93 2 (.slice a n p) n (lvs ps).flatten :: lrw 100 ps :: H) w := by
  subst hn
  unfold dcP at hs
  obtain ⟨a, hs⟩ := hs.ex
  obtain ⟨p, hs⟩ := hs.ex
  obtain ⟨ps, h1, h2, hs⟩ := ln_open rfl hs.unstar.b1
  exact ⟨ps, a, p, Lib.hid ⟨h1, h2⟩, by refine sb_from ?_ hs; repeat constructor⟩
theorem dc_close {d v n p : Nat} {a : Option Addr} {keeps : Bool} {cols : Nat} {top bot : Int} {L : List LN} {ps : List PL} (HO : Hid (ps.map PL.ln = L ∧ ps.length = n)) (hs : sat W (cel d 85 [.pointer (some ⟨v, 0, none⟩), .bool keeps, .int .i64 cols, .slice a n p, .int .i64 top, .int .i64 bot] :: own 93 2 (.slice a n p) n (lvs ps).flatten :: lrw 100 ps :: H) w) : sat W (dcP d v ⟨keeps, cols, top, bot, L⟩ :: H) w := by
  obtain ⟨h1, h2⟩ := HO.out
  have h3 := ln_close h2 (by refine sb_from ?_ hs; repeat constructor : sat W (own 93 2 (.slice a n p) n (lvs ps).flatten :: lrw 100 ps :: cel d 85 [.pointer (some ⟨v, 0, none⟩), .bool keeps, .int .i64 cols, .slice a n p, .int .i64 top, .int .i64 bot] :: H) w)
  rw [h1] at h3
  have hn : L.length = n := by rw [← h1, List.length_map, h2]
  subst hn
  have h4 := h3.b1.star
  unfold dcP
  exact h4.imp fun h k => ⟨a, p, k⟩
theorem slty83 : SlTy Try.prog 83 93 2 16 := ⟨Try.underlying83, by obtain ⟨i0, hi, hz0, hz1, hz2⟩ := info_parts (show (Try.prog.info? 93).map (fun i => (i.zero, i.size, i.bytes)) = some (some (.agg #[.int .i64 0, .pointer none]), 2, 16) by kernel_rfl); exact ⟨i0, _, hi, hz0, hz1, hz2, rfl⟩, by decide⟩
theorem one83 : oneTy Try.prog 83 = true := by kernel_rfl
theorem one60 : oneTy Try.prog 60 = true := by kernel_rfl
attribute [local irreducible] rowTy oneTy World.setCell World.setCells World.alloc World.drew World.drewN Calls sat cel own blk old wpQuiet wpList cmb cmb1 rwP cls rws wi wh fst_ World.rangeAt lrw lnP stP lsP dsP lvs frL downL upL pushs dcP
theorem dfresh49 {d v n cols most nm pm : Nat} {keeps : Bool} {top bot nx : Int} {am : Option Addr} {SL : List LN} {at_ : At} (hn : n ≤ 512) (c0 : 1 ≤ cols) (c1 : cols ≤ 512) (h : 0 < nx) (hb : nx + n ≤ 1000000) (hs : sat W (cel d 85 [.pointer (some ⟨v, 0, none⟩), .bool keeps, .int .i64 cols, .slice am nm pm, .int .i64 top, .int .i64 bot] :: dsP v nx most SL :: H) w) :
    Calls Try.prog 49 #[.pointer (some ⟨d, 0, none⟩), .int .i64 (n : Int), aV at_] w fun e w' => ∃ a c, e = .returned (.slice a n c) ∧ sat W (lnP 93 100 (.slice a n c) (frL n nx (frC cols at_)) :: cel d 85 [.pointer (some ⟨v, 0, none⟩), .bool keeps, .int .i64 cols, .slice am nm pm, .int .i64 top, .int .i64 bot] :: dsP v (nx + n) most SL :: H) w' := by
  obtain ⟨fg, bg, fl⟩ := at_
  have HB := Lib.hid hb
  have HX0 := Lib.hid h
  have HN5 := Lib.hid hn
  have hn63 : (n : Int) ≤ 1000 := by omega
  clear hb h hn
  go_enter Try.func49, Try.ntmps49
  go_wp2_with fail
  have hs1 := hs.made (T := 25) (l := [.int .u32 fg, .int .u32 bg, .int .u16 fl])
  clear hs
  have hs := hs1
  clear hs1
  generalize World.alloc w _ = w1 at hs ⊢
  generalize w.heap.size = z5 at hs ⊢
  go_loopw [8, 7] (fun i o wr => ∃ (k : Nat) (ys : List PL) (a : Option Addr) (c : Nat), k ≤ n ∧ i = .int .i64 (k : Int) ∧ o = .slice a k c ∧ Hid (ys.length = k ∧ ys.map PL.ln = frL k nx (frC cols ⟨fg, bg, fl⟩)) ∧ sat W (own 93 2 (.slice a k c) k (lvs ys).flatten :: lrw 100 ys :: cel z5 25 [.int .u32 fg, .int .u32 bg, .int .u16 fl] :: cel d 85 [.pointer (some ⟨v, 0, none⟩), .bool keeps, .int .i64 cols, .slice am nm pm, .int .i64 top, .int .i64 bot] :: dsP v (nx + (k : Int)) most SL :: H) wr) (fun i _ _ => ((n : Int) - intOf i).toNat)
  case atStart => exact ⟨0, [], none, 0, Nat.zero_le _, rfl, rfl, Lib.hid ⟨rfl, by unfold frL; rfl⟩, by
    have e2 : nx + ((0 : Nat) : Int) = nx := by omega
    have e3 : (lvs []).flatten = [] := by unfold lvs; rfl
    rw [e2, e3]
    have h1 := lrw_nil (R := 100) (hs.own_nil 93 2)
    refine sb_from ?_ h1; repeat constructor⟩
  case round =>
    clear hs
    obtain ⟨k, ys, a, c, hk, rfl, rfl, HY, hs⟩ := hrel
    by_cases hkn : k < n
    · have hkn2 : (k : Int) < (n : Int) := by omega
      have HN : Hid (0 < nx + (k : Int) ∧ nx + (k : Int) ≤ 1000000) := Lib.hid (by have h1 := HB.out; have h2 := HX0.out; omega)
      obtain ⟨nk, hnk⟩ : ∃ nk, nx + (k : Int) = nk := ⟨_, rfl⟩
      have HNK := Lib.hid hnk
      rw [hnk] at hs HN
      clear hnk
      have HS1 : Hid (∀ b2 : Nat, (lvs ys).flatten ++ [.int .i64 nk, .pointer (some ⟨b2, 0, none⟩)] = (lvs (ys ++ [⟨nk, b2, frC cols ⟨fg, bg, fl⟩⟩])).flatten) := Lib.hid fun b2 => lvs_snoc ys ⟨nk, b2, frC cols ⟨fg, bg, fl⟩⟩
      have HRL : Hid (∀ (b2 : Nat) (a9 : Option Addr) (c9 : Nat) (w : World), sat W (own 93 2 (.slice a9 (k + 1) c9) (k + 1) (lvs (ys ++ [⟨nk, b2, frC cols ⟨fg, bg, fl⟩⟩])).flatten :: rwP 100 b2 (frC cols ⟨fg, bg, fl⟩) :: lrw 100 ys :: cel z5 25 [.int .u32 fg, .int .u32 bg, .int .u16 fl] :: cel d 85 [.pointer (some ⟨v, 0, none⟩), .bool keeps, .int .i64 cols, .slice am nm pm, .int .i64 top, .int .i64 bot] :: dsP v (nk + 1) most SL :: H) w → ∃ (k2 : Nat) (ys : List PL) (a : Option Addr) (c : Nat), k2 ≤ n ∧ Value.int .i64 ((k : Int) + 1) = .int .i64 (k2 : Int) ∧ Value.slice a9 (k + 1) c9 = .slice a k2 c ∧ Hid (ys.length = k2 ∧ ys.map PL.ln = frL k2 nx (frC cols ⟨fg, bg, fl⟩)) ∧ sat W (own 93 2 (.slice a k2 c) k2 (lvs ys).flatten :: lrw 100 ys :: cel z5 25 [.int .u32 fg, .int .u32 bg, .int .u16 fl] :: cel d 85 [.pointer (some ⟨v, 0, none⟩), .bool keeps, .int .i64 cols, .slice am nm pm, .int .i64 top, .int .i64 bot] :: dsP v (nx + (k2 : Int)) most SL :: H) w) := Lib.hid (by
        intro b2 a9 c9 w h
        refine ⟨k + 1, ys ++ [⟨nk, b2, frC cols ⟨fg, bg, fl⟩⟩], a9, c9, by omega, by push_cast; rfl, rfl, Lib.hid ⟨by rw [List.length_append, HY.out.1]; rfl, by rw [List.map_append, HY.out.2, frL_succ, HNK.out]; rfl⟩, ?_⟩
        have e : nx + ((k + 1 : Nat) : Int) = nk + 1 := by have := HNK.out; push_cast; omega
        rw [e]
        have h1 := lrw_snoc (y := ⟨nk, b2, frC cols ⟨fg, bg, fl⟩⟩) (by refine sb_from ?_ h; repeat constructor : sat W (rwP 100 b2 (frC cols ⟨fg, bg, fl⟩) :: lrw 100 ys :: own 93 2 (.slice a9 (k + 1) c9) (k + 1) (lvs (ys ++ [⟨nk, b2, frC cols ⟨fg, bg, fl⟩⟩])).flatten :: cel z5 25 [.int .u32 fg, .int .u32 bg, .int .u16 fl] :: cel d 85 [.pointer (some ⟨v, 0, none⟩), .bool keeps, .int .i64 cols, .slice am nm pm, .int .i64 top, .int .i64 bot] :: dsP v (nk + 1) most SL :: H) w)
        refine sb_from ?_ h1; repeat constructor)
      go_upto_region 5 with fail
      refine L_begin 15 15 [cel d 85 [.pointer (some ⟨v, 0, none⟩), .bool keeps, .int .i64 cols, .slice am nm pm, .int .i64 top, .int .i64 bot], cel z5 25 [.int .u32 fg, .int .u32 bg, .int .u16 fl]] [cel d 85 [.pointer (some ⟨v, 0, none⟩), .bool keeps, .int .i64 cols, .slice am nm pm, .int .i64 top, .int .i64 bot], cel z5 25 [.int .u32 fg, .int .u32 bg, .int .u16 fl]] hs (fun _ h => by (refine sb_from ?_ h; repeat constructor)) (fun _ h => by (refine sb_from ?_ h; repeat constructor)) (by kernel_rfl) ?_; clear hs; intro w hs hd
      refine L_reads2 [0, 1, 2, 3, 4, 5, 6, 7, 8] #[true, true, true, true, true, true, true, true, true, false, false, false, false, false, false, false] (fuel := 7) hd (by kernel_rfl) (fun _ _ _ _ _ h => h) ?_; clear hd; intro X f hne hf hcl hd; simp only [nths, nth, List.append_nil, List.nil_append, List.cons_append]; (try simp only [Act.put, List.setIfInBounds_toArray, List.set_cons_succ, List.set_cons_zero]); (repeat ((first | ((with_reducible apply ldsq (cs := [.int .u32 fg, .int .u32 bg, .int .u16 fl]) 3 (fun x => (hf x).b1)); exact rfl; exact rfl; exact rfl; exact row33; exact rfl; exact rfl) | ((with_reducible apply ldqx); exact rfl; exact rfl; exact rfl; (exact fun x => (hf x).b0); exact rfl; kernel_rfl) | go_big_quiet_step (fail)); (try simp only [Act.put, List.setIfInBounds_toArray, List.set_cons_succ, List.set_cons_zero]))); refine wpQuiet_nil ?_; clear hcl hf hne f X
      refine L_each [9, 13] (by kernel_rfl) ⟨?_, ?_, trivial⟩
      · skip
        simp only [nth]
        go_wp2_with (go_at_call 69; refine (rfresh20 (a := ⟨fg, bg, fl⟩) c0 c1 HN.out.1 HN.out.2 (by (apply sk_from (hs := hs); repeat constructor))).mono ?_; clear hs; rintro e w ⟨b2, rfl, hs⟩)
        (refine on_now hs ?_); clear hs; intro hs
        refine L_on [cel d 85 [.pointer (some ⟨v, 0, none⟩), .bool keeps, .int .i64 cols, .slice am nm pm, .int .i64 top, .int .i64 bot], cel z5 25 [.int .u32 fg, .int .u32 bg, .int .u16 fl]] [cel d 85 [.pointer (some ⟨v, 0, none⟩), .bool keeps, .int .i64 cols, .slice am nm pm, .int .i64 top, .int .i64 bot], cel z5 25 [.int .u32 fg, .int .u32 bg, .int .u16 fl]] #[true, true, true, true, true, true, true, true, true, true, false, false, false, false, false, false] (fuel := 6) hs (by kernel_rfl) (fun _ h => h) (fun _ h => h) (fun _ => by (refine sb_from ?_ hs; repeat constructor)) (fun _ => by (refine sb_from ?_ hs; repeat constructor)) ?_; clear hd hs; intro hd hs
        refine L_reads2 [10, 11, 12] #[true, true, true, true, true, true, true, true, true, true, true, true, true, false, false, false] (fuel := 3) hd (by kernel_rfl) (fun _ _ _ _ _ h => h) ?_; clear hd; intro X f hne hf hcl hd; simp only [nths, nth, List.append_nil, List.nil_append, List.cons_append]; (try simp only [Act.put, List.setIfInBounds_toArray, List.set_cons_succ, List.set_cons_zero]); (repeat ((go_big_quiet_step (fail)); (try simp only [Act.put, List.setIfInBounds_toArray, List.set_cons_succ, List.set_cons_zero]))); refine wpQuiet_nil ?_; clear hcl hf hne f X
        refine L_each [13] (by kernel_rfl) ⟨?_, trivial⟩
        simp only [nth]
        go_wp2_with (fail)
        (refine on_now hs.made ?_); clear hs; intro hs
        refine L_on [cel d 85 [.pointer (some ⟨v, 0, none⟩), .bool keeps, .int .i64 cols, .slice am nm pm, .int .i64 top, .int .i64 bot], cel z5 25 [.int .u32 fg, .int .u32 bg, .int .u16 fl]] [cel d 85 [.pointer (some ⟨v, 0, none⟩), .bool keeps, .int .i64 cols, .slice am nm pm, .int .i64 top, .int .i64 bot], cel z5 25 [.int .u32 fg, .int .u32 bg, .int .u16 fl]] #[true, true, true, true, true, true, true, true, true, true, true, true, true, true, false, false] (fuel := 2) hs (by kernel_rfl) (fun _ h => h) (fun _ h => h) (fun _ => by (refine sb_from ?_ hs; repeat constructor)) (fun _ => by (refine sb_from ?_ hs; repeat constructor)) ?_; clear hd hs; intro hd hs; generalize World.alloc _ _ = w1 at hs ⊢; generalize World.heap _ = qz at hs ⊢; generalize Array.size qz = zA at hs ⊢
        refine L_each [14] (by kernel_rfl) ⟨?_, trivial⟩
        simp only [nth]
        go_wp2_with (((with_reducible refine isl ?_); first | ((with_reducible apply stswx); exact rfl; exact rfl; exact rfl; (exact hs.b0); exact rfl; exact row64; exact rfl; exact rfl; exact rfl; clear hs; intro w hs)))
        (refine on_now hs ?_); clear hs; intro hs
        refine L_on [cel d 85 [.pointer (some ⟨v, 0, none⟩), .bool keeps, .int .i64 cols, .slice am nm pm, .int .i64 top, .int .i64 bot], cel z5 25 [.int .u32 fg, .int .u32 bg, .int .u16 fl]] [cel d 85 [.pointer (some ⟨v, 0, none⟩), .bool keeps, .int .i64 cols, .slice am nm pm, .int .i64 top, .int .i64 bot], cel z5 25 [.int .u32 fg, .int .u32 bg, .int .u16 fl]] #[true, true, true, true, true, true, true, true, true, true, true, true, true, true, true, false] (fuel := 1) hs (by kernel_rfl) (fun _ h => h) (fun _ h => h) (fun _ => by (refine sb_from ?_ hs; repeat constructor)) (fun _ => by (refine sb_from ?_ hs; repeat constructor)) ?_; clear hd hs; intro hd hs
        refine L_each [15] (by kernel_rfl) ⟨?_, trivial⟩
        simp only [nth]
        go_wp2_with (fail)
        (refine on_now hs ?_); clear hs; intro hs
        refine L_on [cel d 85 [.pointer (some ⟨v, 0, none⟩), .bool keeps, .int .i64 cols, .slice am nm pm, .int .i64 top, .int .i64 bot], cel z5 25 [.int .u32 fg, .int .u32 bg, .int .u16 fl]] [cel d 85 [.pointer (some ⟨v, 0, none⟩), .bool keeps, .int .i64 cols, .slice am nm pm, .int .i64 top, .int .i64 bot], cel z5 25 [.int .u32 fg, .int .u32 bg, .int .u16 fl]] #[true, true, true, true, true, true, true, true, true, true, true, true, true, true, true, true] (fuel := 0) hs (by kernel_rfl) (fun _ h => h) (fun _ h => h) (fun e => absurd e (by decide)) (fun e => absurd e (by decide)) ?_; clear hd hs; intro hd hs
        refine L_done (by kernel_rfl) ?_; clear hd
        (go_wp2_with (first | (((with_reducible apply app hs.b4); exact rfl; exact rfl; exact rfl; exact rfl; exact slty83; exact rfl; exact rfl; decide; omega; (unfold maxLen; omega); clear hs; intro a9 c9 w hs; rw [HS1.out] at hs)) | ((with_reducible refine isl ?_); first | ((with_reducible apply ldsx 2); exact rfl; exact rfl; exact rfl; (exact hs.b0); exact row64; exact rfl; exact rfl) | ((with_reducible refine wrap hs ?_); clear hs; intro w hs)))); go_roundw; (case rel => exact HRL.out b2 (some ⟨a9, 0, none⟩) c9 _ (by refine sb_from ?_ hs; repeat constructor)); (case measure => simp [intOf]; omega)
      · skip
        simp only [nth]
        go_wp2_with (fail)
        (refine on_now hs.made ?_); clear hs; intro hs
        refine L_on [cel d 85 [.pointer (some ⟨v, 0, none⟩), .bool keeps, .int .i64 cols, .slice am nm pm, .int .i64 top, .int .i64 bot], cel z5 25 [.int .u32 fg, .int .u32 bg, .int .u16 fl]] [cel d 85 [.pointer (some ⟨v, 0, none⟩), .bool keeps, .int .i64 cols, .slice am nm pm, .int .i64 top, .int .i64 bot], cel z5 25 [.int .u32 fg, .int .u32 bg, .int .u16 fl]] #[true, true, true, true, true, true, true, true, true, false, false, false, false, true, false, false] (fuel := 6) hs (by kernel_rfl) (fun _ h => h) (fun _ h => h) (fun _ => by (refine sb_from ?_ hs; repeat constructor)) (fun _ => by (refine sb_from ?_ hs; repeat constructor)) ?_; clear hd hs; intro hd hs; generalize World.alloc _ _ = w1 at hs ⊢; generalize World.heap _ = qz at hs ⊢; generalize Array.size qz = zA at hs ⊢
        refine L_each [9] (by kernel_rfl) ⟨?_, trivial⟩
        simp only [nth]
        go_wp2_with (go_at_call 69; refine (rfresh20 (a := ⟨fg, bg, fl⟩) c0 c1 HN.out.1 HN.out.2 (by (apply sk_from (hs := hs); repeat constructor))).mono ?_; clear hs; rintro e w ⟨b2, rfl, hs⟩)
        (refine on_now hs ?_); clear hs; intro hs
        refine L_on [cel d 85 [.pointer (some ⟨v, 0, none⟩), .bool keeps, .int .i64 cols, .slice am nm pm, .int .i64 top, .int .i64 bot], cel z5 25 [.int .u32 fg, .int .u32 bg, .int .u16 fl]] [cel d 85 [.pointer (some ⟨v, 0, none⟩), .bool keeps, .int .i64 cols, .slice am nm pm, .int .i64 top, .int .i64 bot], cel z5 25 [.int .u32 fg, .int .u32 bg, .int .u16 fl]] #[true, true, true, true, true, true, true, true, true, true, false, false, false, true, false, false] (fuel := 5) hs (by kernel_rfl) (fun _ h => h) (fun _ h => h) (fun _ => by (refine sb_from ?_ hs; repeat constructor)) (fun _ => by (refine sb_from ?_ hs; repeat constructor)) ?_; clear hd hs; intro hd hs
        refine L_reads2 [10, 11, 12] #[true, true, true, true, true, true, true, true, true, true, true, true, true, true, false, false] (fuel := 2) hd (by kernel_rfl) (fun _ _ _ _ _ h => h) ?_; clear hd; intro X f hne hf hcl hd; simp only [nths, nth, List.append_nil, List.nil_append, List.cons_append]; (try simp only [Act.put, List.setIfInBounds_toArray, List.set_cons_succ, List.set_cons_zero]); (repeat ((go_big_quiet_step (fail)); (try simp only [Act.put, List.setIfInBounds_toArray, List.set_cons_succ, List.set_cons_zero]))); refine wpQuiet_nil ?_; clear hcl hf hne f X
        refine L_each [14] (by kernel_rfl) ⟨?_, trivial⟩
        simp only [nth]
        go_wp2_with (((with_reducible refine isl ?_); first | ((with_reducible apply stswx); exact rfl; exact rfl; exact rfl; (exact hs.b2); exact rfl; exact row64; exact rfl; exact rfl; exact rfl; clear hs; intro w hs)))
        (refine on_now hs ?_); clear hs; intro hs
        refine L_on [cel d 85 [.pointer (some ⟨v, 0, none⟩), .bool keeps, .int .i64 cols, .slice am nm pm, .int .i64 top, .int .i64 bot], cel z5 25 [.int .u32 fg, .int .u32 bg, .int .u16 fl]] [cel d 85 [.pointer (some ⟨v, 0, none⟩), .bool keeps, .int .i64 cols, .slice am nm pm, .int .i64 top, .int .i64 bot], cel z5 25 [.int .u32 fg, .int .u32 bg, .int .u16 fl]] #[true, true, true, true, true, true, true, true, true, true, true, true, true, true, true, false] (fuel := 1) hs (by kernel_rfl) (fun _ h => h) (fun _ h => h) (fun _ => by (refine sb_from ?_ hs; repeat constructor)) (fun _ => by (refine sb_from ?_ hs; repeat constructor)) ?_; clear hd hs; intro hd hs
        refine L_each [15] (by kernel_rfl) ⟨?_, trivial⟩
        simp only [nth]
        go_wp2_with (fail)
        (refine on_now hs ?_); clear hs; intro hs
        refine L_on [cel d 85 [.pointer (some ⟨v, 0, none⟩), .bool keeps, .int .i64 cols, .slice am nm pm, .int .i64 top, .int .i64 bot], cel z5 25 [.int .u32 fg, .int .u32 bg, .int .u16 fl]] [cel d 85 [.pointer (some ⟨v, 0, none⟩), .bool keeps, .int .i64 cols, .slice am nm pm, .int .i64 top, .int .i64 bot], cel z5 25 [.int .u32 fg, .int .u32 bg, .int .u16 fl]] #[true, true, true, true, true, true, true, true, true, true, true, true, true, true, true, true] (fuel := 0) hs (by kernel_rfl) (fun _ h => h) (fun _ h => h) (fun e => absurd e (by decide)) (fun e => absurd e (by decide)) ?_; clear hd hs; intro hd hs
        refine L_done (by kernel_rfl) ?_; clear hd
        (go_wp2_with (first | (((with_reducible apply app hs.b4); exact rfl; exact rfl; exact rfl; exact rfl; exact slty83; exact rfl; exact rfl; decide; omega; (unfold maxLen; omega); clear hs; intro a9 c9 w hs; rw [HS1.out] at hs)) | ((with_reducible refine isl ?_); first | ((with_reducible apply ldsx 2); exact rfl; exact rfl; exact rfl; (exact hs.b0); exact row64; exact rfl; exact rfl) | ((with_reducible refine wrap hs ?_); clear hs; intro w hs)))); go_roundw; (case rel => exact HRL.out b2 (some ⟨a9, 0, none⟩) c9 _ (by refine sb_from ?_ hs; repeat constructor)); (case measure => simp [intOf]; omega)
    · have hge : ¬ (k : Int) < (n : Int) := by omega
      obtain rfl : k = n := by omega
      clear hkn
      go_wp2_with fail
      go_ret
      have h1 := ln_close HY.out.1 (by refine sb_from ?_ hs; repeat constructor : sat W (own 93 2 (.slice a k c) k (lvs ys).flatten :: lrw 100 ys :: cel d 85 [.pointer (some ⟨v, 0, none⟩), .bool keeps, .int .i64 cols, .slice am nm pm, .int .i64 top, .int .i64 bot] :: dsP v (nx + (k : Int)) most SL :: H) wr)
      rw [HY.out.2] at h1
      exact ⟨a, c, rfl, h1⟩
end Go.Proofs.Ytdcagaaanbgcoaa
namespace Go.Proofs.Ytdcagaaanbgcoaa
open Go.RowKit Go.Mem Go.Cells Go.Lines
variable {W w : World} {H : List HProp}
attribute [local irreducible] rowTy oneTy World.setCell World.setCells World.alloc World.drew World.drewN Calls sat cel own blk old wpQuiet wpList cmb cmb1 rwP cls rws wi wh fst_ World.rangeAt lrw lnP stP lsP dsP lvs frL downL upL pushs dcP
section
variable {d v n N cols most : Nat} {keeps : Bool} {top bot nx : Int} {L SL : List LN} {at_ : At}
theorem dnew26 (hN5 : N ≤ 512) (c0 : 1 ≤ cols) (c1 : cols ≤ 512) (hnx : 0 < nx) (hnb : nx + 512 ≤ 1000000) (hs : sat W (dsP v nx most SL :: H) w) :
    Calls Try.prog 26 #[.int .i64 (N : Int), .int .i64 (cols : Int), .pointer (some ⟨v, 0, none⟩), .bool keeps] w fun e w' => ∃ d, e = .returned (.pointer (some ⟨d, 0, none⟩)) ∧ sat W (dcP d v ⟨keeps, cols, 0, (N : Int) - 1, frL N nx (frC cols At.z)⟩ :: dsP v (nx + N) most SL :: H) w' := by
  have hn63 : (N : Int) ≤ 1000 := by omega
  go_enter Try.func26, Try.ntmps26
  go_wp2_with (first | (go_at_call 49; refine (dfresh49 (n := N) (nx := nx) (cols := cols) (v := v) (most := most) (SL := SL) (at_ := At.z) hN5 c0 c1 hnx (by omega) (by (apply sk_from (hs := hs); repeat constructor))).mono ?_; clear hs; rintro e w ⟨a, c, rfl, hs⟩) | ((with_reducible refine isl ?_); first | ((with_reducible apply stx); exact rfl; exact rfl; exact rfl; (exact hs.b1); exact rfl; exact rfl; exact rfl; kernel_rfl; exact rfl; clear hs; intro w hs) | ((with_reducible refine wrap hs ?_); clear hs; (generalize w.heap.size = z9); intro w hs)))
  go_ret
  refine ⟨z9, rfl, ?_⟩
  obtain ⟨ps, h1, h2, hs⟩ := ln_open (frL_len _ _ _) hs.b1
  exact dc_close (Lib.hid ⟨h1, h2⟩) (by refine sb_from ?_ hs; repeat constructor)
theorem dfind60 {id : Int} (hn : L.length = n) (h0 : 0 < n) (h5 : n ≤ 512) (hs : sat W (dcP d v ⟨keeps, cols, top, bot, L⟩ :: H) w) :
    Calls Try.prog 60 #[.pointer (some ⟨d, 0, none⟩), .int .i64 id] w fun e w' => e = .returned (.int .i64 (ffst L id)) ∧ sat W (dcP d v ⟨keeps, cols, top, bot, L⟩ :: H) w' := by
  obtain ⟨ps, a, p, HO, hs⟩ := dc_open hn hs
  obtain ⟨g, rfl⟩ := own_ptr h0 hs.b1
  obtain ⟨F, hF⟩ : ∃ F, ffst L id = F := ⟨_, rfl⟩
  have HF := Lib.hid hF
  have HN := Lib.hid hn
  have hn63 : (n : Int) ≤ 1000 := by omega
  rw [HF.out]
  clear hF hn h5
  go_enter Try.func60, Try.ntmps60
  go_wp2_with fail
  go_loopw [5] (fun i wx => ∃ i0 : Nat, i0 ≤ n ∧ i = .int .i64 (i0 : Int) ∧ Hid (∀ (j : Nat) (y : LN), j < i0 → L[j]? = some y → y.1 ≠ id) ∧ sat W (cel d 85 [.pointer (some ⟨v, 0, none⟩), .bool keeps, .int .i64 cols, .slice (some ⟨g, 0, none⟩) n p, .int .i64 top, .int .i64 bot] :: own 93 2 (.slice (some ⟨g, 0, none⟩) n p) n (lvs ps).flatten :: lrw 100 ps :: H) wx) (fun i _ => ((n : Int) - intOf i).toNat)
  case atStart => exact ⟨0, Nat.zero_le _, rfl, Lib.hid (fun j y hj => absurd hj (by omega)), hs⟩
  case round =>
    clear hs
    obtain ⟨i0, hi, rfl, HJ, hs⟩ := hrel
    by_cases hin : i0 < n
    · have hin2 : (i0 : Int) < (n : Int) := by omega
      obtain ⟨⟨xid, xb, xl⟩, hx⟩ : ∃ x, ps[i0]? = some x := ⟨_, List.getElem?_eq_getElem (by rw [HO.out.2]; exact hin)⟩
      have hx2 : L[i0]? = some (xid, xl) := by rw [← HO.out.1, List.getElem?_map, hx]; rfl
      have HX0 := Lib.hid (lvs_at hx).1
      have HX2 := Lib.hid hx2
      clear hx hx2
      by_cases hq : xid = id
      · subst hq
        have HE := Lib.hid (ffst_hit HJ.out HX2.out rfl)
        go_wp2_with (((with_reducible refine isl ?_); first | ((with_reducible apply ldo hs.b1); exact rfl; exact rfl; exact rfl; exact HX0.out; exact one3) | ((with_reducible apply ldx); exact rfl; exact rfl; exact rfl; (exact hs.b0); exact rfl; kernel_rfl)))
        go_ret
        exact ⟨by rw [← HF.out, HE.out]; rfl, dc_close HO (by refine sb_from ?_ hs; repeat constructor)⟩
      · go_wp2_with (((with_reducible refine isl ?_); first | ((with_reducible apply ldo hs.b1); exact rfl; exact rfl; exact rfl; exact HX0.out; exact one3) | ((with_reducible apply ldx); exact rfl; exact rfl; exact rfl; (exact hs.b0); exact rfl; kernel_rfl)))
        go_roundw
        case rel => exact ⟨i0 + 1, by omega, by go_num, Lib.hid (fun j y hj hy => by
          by_cases hji : j = i0
          · subst hji
            rw [HX2.out] at hy
            cases hy
            exact hq
          · exact HJ.out j y (by omega) hy), by refine sb_from ?_ hs; repeat constructor⟩
        case measure => simp [intOf]; omega
    · have hge : ¬ (i0 : Int) < (n : Int) := by omega
      obtain rfl : i0 = n := by omega
      have HE : Hid (F = -1) := Lib.hid (by
        rw [← HF.out]
        refine ffst_none fun j y hy => HJ.out j y ?_ hy
        have h1 := (List.getElem?_eq_some_iff.1 hy).1
        rw [HN.out] at h1
        exact h1)
      clear hin
      go_wp2_with (((with_reducible refine isl ?_); first | ((with_reducible apply ldx); exact rfl; exact rfl; exact rfl; (exact hs.b0); exact rfl; kernel_rfl)))
      go_ret
      exact ⟨by rw [HE.out]; rfl, dc_close HO (by refine sb_from ?_ hs; repeat constructor)⟩
theorem held86 {q f to_ : Int} {k : Nat} (hk : 0 < k) (h5 : k ≤ 512) (hto : to_ = f + (k : Int) - 1) (hf : 0 ≤ f) (hf2 : f ≤ 512) (hs : sat W H w) :
    Calls Try.prog 86 #[.int .i64 q, .int .i64 f, .int .i64 to_] w fun e w' => e = .returned (.int .i64 ((hld q k : Nat) : Int)) ∧ sat W H w' := by
  have e1 : to_ - f + 1 = (k : Int) := by omega
  have e2 : to_ ≤ 1024 := by omega
  have e3 : -1 ≤ to_ := by omega
  clear hto
  by_cases h1 : q < 0
  · have HH : ((hld q k : Nat) : Int) = 0 := by unfold hld; omega
    rw [HH]
    clear HH e1
    go_enter Try.func86, Try.ntmps86
    go_wp2_with fail
    go_ret
    exact ⟨rfl, hs⟩
  · by_cases h2 : (k : Int) < q
    · have h3 : to_ - f + 1 < q := by omega
      have HH : ((hld q k : Nat) : Int) = to_ - f + 1 := by unfold hld; omega
      rw [HH]
      clear HH e1 h2
      go_enter Try.func86, Try.ntmps86
      go_wp2_with fail
      go_ret
      exact ⟨rfl, hs⟩
    · have h3 : ¬ to_ - f + 1 < q := by omega
      have HH : ((hld q k : Nat) : Int) = q := by unfold hld; omega
      rw [HH]
      clear HH e1 h2
      go_enter Try.func86, Try.ntmps86
      go_wp2_with fail
      go_ret
      exact ⟨rfl, hs⟩
end
end Go.Proofs.Ytdcagaaanbgcoaa
namespace Go.Proofs.Ytdcagaaanbgcoaa
open Go.RowKit Go.Mem Go.Cells Go.Lines
variable {W w : World} {H : List HProp}
theorem rds_head {ps : List PL} {T g n p f c2 : Nat} (hl : f ≤ n) (hs : sat W (own T 2 (.slice (some ⟨g, 0, none⟩) n p) n (lvs ps).flatten :: H) w) : Rds w (.slice (some ⟨g, 0, none⟩) f c2) f (lvs (ps.take f)).flatten := by
  have h := (hs.own_rds).take (c' := c2) (k := f) (size := 2) hl (by simp)
  rwa [flat_take _ _ (lvs2 _), lvs_take] at h
theorem rds_tail {ps : List PL} {T g n p f : Nat} (hs : sat W (own T 2 (.slice (some ⟨g, 0, none⟩) n p) n (lvs ps).flatten :: H) w) : Rds w (.slice (some ⟨g, f * 2, none⟩) (n - f) (p - f)) (n - f) (lvs (ps.drop f)).flatten := by
  have h := Rds.drop (k := f) (size := 2) (hs.own_rds)
  rwa [flat_drop _ _ (lvs2 _), lvs_drop, Nat.zero_add] at h
theorem rds_mid {ps : List PL} {T g n p f k c2 : Nat} (hl : f + k ≤ n) (hs : sat W (own T 2 (.slice (some ⟨g, 0, none⟩) n p) n (lvs ps).flatten :: H) w) : Rds w (.slice (some ⟨g, f * 2, none⟩) k c2) k (lvs ((ps.drop f).take k)).flatten := by
  have h := (rds_tail (f := f) hs).take (c' := c2) (k := k) (size := 2) (by omega) (by simp)
  rwa [flat_take _ _ (lvs2 _), lvs_take] at h
theorem rds_mid2 {ps : List PL} {T g n p f k c2 : Nat} (hl : f + k ≤ n) (hs : sat W (own T 2 (.slice (some ⟨g, 0, none⟩) n p) n (lvs ps).flatten :: H) w) : Rds w (.slice (some ⟨g, f * 2, none⟩) (f + k - f) c2) k (lvs ((ps.drop f).take k)).flatten := by
  rw [Nat.add_sub_cancel_left]
  exact rds_mid hl hs
theorem rds_tail2 {ps : List PL} {T g n p f r : Nat} (hr : n = f + r) (hs : sat W (own T 2 (.slice (some ⟨g, 0, none⟩) n p) n (lvs ps).flatten :: H) w) : Rds w (.slice (some ⟨g, f * 2, none⟩) (n - f) (p - f)) r (lvs (ps.drop f)).flatten := by
  have h := rds_tail (f := f) hs
  rwa [show n - f = r from by omega] at h ⊢
theorem rds_zero2 {w : World} {g off c2 n f r : Nat} {xs : List Value} (hr : n = f + r) (h0 : r = 0) (hx : xs.length = r * 2) : Rds w (.slice (some ⟨g, off, none⟩) (n - f) c2) r xs := by
  subst h0
  rw [show n - f = 0 from by omega, List.eq_nil_of_length_eq_zero (by omega : xs.length = 0)]
  exact .inr ⟨g, off, c2, rfl, fun j u hj => by simp at hj⟩
theorem rds_zero {w : World} {g off c2 : Nat} : Rds w (.slice (some ⟨g, off, none⟩) 0 c2) 0 [] := .inr ⟨g, off, c2, rfl, fun j u hj => by simp at hj⟩
theorem apxn {P : Program} {ops : Array Oper} {rest : List Oper} {o : Oper} {a : Act} {Q : Exit → Act → World → Prop} {s x : Operand} {t e : TypeId} {size bytes m : Nat} {v : Value} {news : List Value} (hs : sat W (own e size (.slice none 0 0) 0 [] :: H) w)
    (ho : o.op = .call { callee := .builtin .append, args := #[s, x], argTypes := #[t, t] }) (hw : Region.wanted o (yielded ops a.tmps) = true)
    (hev : a.eval s = .slice none 0 0) (hx : a.eval x = v) (ht : SlTy P t e size bytes) (hr : Rds w v m news) (hl : news.length = m * size) (h1 : ∀ u ∈ news, u.oneCell' = true)
    (hbytes : m * bytes ≤ 140737488355328) (h63 : m ≤ maxLen)
    (h : ∀ a' c' w', sat W (own e size (.slice a' m c') m news :: H) w' → wpList P ops Q rest (a.put o.dst (.slice a' m c')) w') : wpList P ops Q (o :: rest) a w := by
  refine apx hs ho hw hev hx ht hr hl h1 (by rw [Nat.zero_add]; exact hbytes) (by rw [Nat.zero_add]; exact h63) ?_
  intro a' c' w' h2
  simp only [Nat.zero_add, List.nil_append] at h2 ⊢
  exact h a' c' w' h2
attribute [local irreducible] rowTy oneTy World.setCell World.setCells World.alloc World.drew World.drewN Calls sat cel own blk old wpQuiet wpList cmb cmb1 rwP cls rws wi wh fst_ World.rangeAt lrw lnP stP lsP dsP lvs frL downL upL pushs dcP Rds
section
variable {d v N cols most f k : Nat} {keeps : Bool} {top bot nx q to_ : Int} {L SL : List LN} {at_ : At}
set_option maxRecDepth 20000 in
theorem ddown71 (hn : L.length = N) (hN : N ≤ 512) (hf : f + k ≤ N) (hk : 0 < k) (hto : to_ = ((f + k : Nat) : Int) - 1) (c0 : 1 ≤ cols) (c1 : cols ≤ 512) (hnx : 0 < nx) (hnb : nx + 512 ≤ 1000000)
    (hs : sat W (dcP d v ⟨keeps, cols, top, bot, L⟩ :: dsP v nx most SL :: H) w) :
    Calls Try.prog 71 #[.pointer (some ⟨d, 0, none⟩), .int .i64 (f : Int), .int .i64 to_, .int .i64 q, aV at_] w fun e w' => e = .returned (.tuple #[]) ∧ sat W (dcP d v ⟨keeps, cols, top, bot, downL L f k (hld q k) (frL (hld q k) nx (frC cols at_))⟩ :: dsP v (nx + hld q k) most SL :: H) w' := by
  obtain ⟨ps, a, p, HO, hs⟩ := dc_open hn hs
  obtain ⟨g, rfl⟩ := own_ptr (by omega) hs.b1
  obtain ⟨hnp, hpm⟩ := hs.b1.own_len
  have hp63 : (p : Int) ≤ 9223372036854775807 := by unfold maxLen at hpm; omega
  obtain ⟨m, hm⟩ : ∃ m, hld q k = m := ⟨_, rfl⟩
  have hmk : m ≤ k := by rw [← hm]; exact hld_le _ _
  have HM := Lib.hid hm
  rw [hm]
  obtain ⟨fg, bg, fl⟩ := at_
  have hN2 : (N : Int) ≤ 512 := by omega
  have HT := Lib.hid hto
  have ht1 : to_ + 1 = ((f + k : Nat) : Int) := by omega
  have ht2 : to_ ≤ 512 := by omega
  have ht3 : 0 ≤ to_ := by omega
  have HB := Lib.hid (And.intro hnx hnb)
  clear hm hn hto hnx hnb hpm
  go_enter Try.func71, Try.ntmps71
  go_upto_region 3 with (first | (go_at_call 86; refine (held86 (k := k) hk (by omega) (by have := HT.out; omega) (by omega) (by omega) hs).mono ?_; clear hs; rintro e w ⟨rfl, hs⟩; rw [HM.out]) | ((with_reducible refine isl ?_); first | ((with_reducible refine wrap hs ?_); clear hs; (generalize w.heap.size = z5); intro w hs)))
  have hs1 := hs.own_nil 93 2
  clear hs
  have hs := hs1
  clear hs1
  have HL1 : Hid ((lvs (ps.take f)).flatten.length = f * 2) := Lib.hid (by rw [lvs_size, List.length_take, HO.out.2, Nat.min_eq_left (by omega)])
  obtain ⟨j, hj⟩ : ∃ j, k = m + j := ⟨k - m, by omega⟩
  have HL2 : Hid ((lvs ((ps.drop f).take j)).flatten.length = j * 2) := Lib.hid (by rw [lvs_size, List.length_take, List.length_drop, HO.out.2, Nat.min_eq_left (by omega)])
  obtain ⟨r, hr⟩ : ∃ r, N = f + k + r := ⟨N - (f + k), by omega⟩
  have HL3 : Hid ((lvs (ps.drop (f + k))).flatten.length = r * 2) := Lib.hid (by rw [lvs_size, List.length_drop, HO.out.2, hr, Nat.add_sub_cancel_left])
  have HJ := Lib.hid (And.intro hj hr)
  clear hj hr
  go_upto_region 4 with (first | ((apply apxn hs.b0; exact rfl; exact rfl; exact rfl; exact rfl; exact slty83; (exact rds_head (f := f) (by omega) hs.b3); exact HL1.out; exact lvs_one; omega; (unfold maxLen; omega); clear hs; intro a9 c9 w hs)) | ((with_reducible refine isl ?_); first | ((with_reducible apply ldx); exact rfl; exact rfl; exact rfl; (exact hs.b2); exact rfl; kernel_rfl)))
  go_upto_region 5 with (first | (go_at_call 49; refine (dfresh49 (n := m) (cols := cols) (v := v) (most := most) (SL := SL) (nx := nx) (at_ := ⟨fg, bg, fl⟩) (by omega) c0 c1 HB.out.1 (by have := HB.out.2; omega) (by (apply sk_from (hs := hs); repeat constructor))).mono ?_; clear hs; rintro e w ⟨af, cf, rfl, hs⟩; obtain ⟨pf, hpf1, hpf2, hs⟩ := ln_open (frL_len _ _ _) hs; have HPF := Lib.hid (And.intro hpf1 hpf2); have HLF : Hid ((lvs pf).flatten.length = m * 2) := Lib.hid (by rw [lvs_size, hpf2]); clear hpf1 hpf2) | ((apply apx hs.b4; exact rfl; exact rfl; exact rfl; exact rfl; exact slty83; (exact sat.own_rds hs.b0); exact HLF.out; exact lvs_one; omega; (unfold maxLen; omega); clear hs; intro a9 c9 w hs)) | ((with_reducible refine isl ?_); first | ((with_reducible apply ldsx 3); exact rfl; exact rfl; exact rfl; (exact hs.b1); exact row33; exact rfl; exact rfl)))
  have e7 : (f : Int) + (k : Int) - (m : Int) = ((f + j : Nat) : Int) := by have := HJ.out.1; omega
  have e8 : to_ + 1 = (f : Int) + (k : Int) := by have := HT.out; omega
  have e9 : ((f + j : Nat) : Int) ≤ 1024 := by have := HJ.out.1; omega
  have e10 : f + j ≤ p := by have := HJ.out.1; omega
  have e11 : f + j - f = j := by omega
  have e12 : f + m + j ≤ 512 := by have := HJ.out.1; omega
  have e13 : f + m + j + r ≤ 512 := by have := HJ.out; omega
  clear ht1
  go_upto_region 6 with (first | ((apply apx hs.b0; exact rfl; exact rfl; exact rfl; exact rfl; exact slty83; (exact rds_mid2 (f := f) (k := j) (by have := HJ.out.1; omega) hs.b6); exact HL2.out; exact lvs_one; omega; (unfold maxLen; omega); clear hs; intro a9 c9 w hs)) | ((with_reducible refine isl ?_); first | ((with_reducible apply ldx); exact rfl; exact rfl; exact rfl; (exact hs.b3); exact rfl; kernel_rfl)))
  have HS : Hid ((lvs (ps.take f)).flatten ++ (lvs pf).flatten ++ (lvs ((ps.drop f).take j)).flatten ++ (lvs (ps.drop (f + k))).flatten = (lvs (downL ps f k m pf)).flatten) := Lib.hid (by
    unfold downL
    rw [show k - m = j from by have := HJ.out.1; omega]
    simp only [lvs_app, List.flatten_append])
  have HDL : Hid ((downL ps f k m pf).map PL.ln = downL L f k m (frL m nx (frC cols ⟨fg, bg, fl⟩)) ∧ (downL ps f k m pf).length = N) := Lib.hid ⟨by rw [downL_map, HO.out.1, HPF.out.1], by rw [downL_len _ hmk (by rw [HO.out.2]; exact hf) HPF.out.2, HO.out.2]⟩
  have HG : Hid (∀ (w : World) (a9 : Option Addr) (c9 : Nat), sat W (own 93 2 (.slice a9 N c9) N (lvs (downL ps f k m pf)).flatten :: lrw 100 ps :: lrw 100 pf :: cel d 85 [.pointer (some ⟨v, 0, none⟩), .bool keeps, .int .i64 cols, .slice a9 N c9, .int .i64 top, .int .i64 bot] :: dsP v (nx + m) most SL :: H) w → sat W (dcP d v ⟨keeps, cols, top, bot, downL L f k m (frL m nx (frC cols ⟨fg, bg, fl⟩))⟩ :: dsP v (nx + m) most SL :: H) w) := Lib.hid (by
    intro w a9 c9 h
    have h1 := lrw_down hmk (by rw [HO.out.2]; exact hf) (by refine sb_from ?_ h; repeat constructor : sat W (lrw 100 ps :: lrw 100 pf :: own 93 2 (.slice a9 N c9) N (lvs (downL ps f k m pf)).flatten :: cel d 85 [.pointer (some ⟨v, 0, none⟩), .bool keeps, .int .i64 cols, .slice a9 N c9, .int .i64 top, .int .i64 bot] :: dsP v (nx + m) most SL :: H) w)
    exact dc_close HDL (by refine sb_from ?_ h1; repeat constructor))
  by_cases hpk : p = f + k
  · have H0 : Hid (r = 0) := Lib.hid (by have := HJ.out.2; omega)
    have q1 : ((f : Int) + (k : Int)) ≤ (N : Int) := by omega
    go_wp2_with (first | ((apply apx hs.b0; exact rfl; exact rfl; exact rfl; exact rfl; exact slty83; exact rds_zero2 HJ.out.2 H0.out HL3.out; exact HL3.out; exact lvs_one; omega; (unfold maxLen; omega); clear hs; intro a9 c9 w hs; rw [HS.out] at hs)) | ((with_reducible refine isl ?_); first | ((with_reducible apply ldx); exact rfl; exact rfl; exact rfl; (exact hs.b3); exact rfl; kernel_rfl) | ((with_reducible apply stx); exact rfl; exact rfl; exact rfl; (exact hs.b3); exact rfl; exact rfl; exact rfl; kernel_rfl; exact rfl; clear hs; intro w hs)))
    refine end_end0 rfl rfl ⟨rfl, HG.out w a9 c9 ?_⟩
    have eN : f + m + j + r = N := by have := HJ.out; omega
    rw [eN] at hs
    refine sb_from ?_ hs; repeat constructor
  · have q1 : ((f : Int) + (k : Int)) ≤ (N : Int) := by omega
    go_wp2_with (first | ((apply apx hs.b0; exact rfl; exact rfl; exact rfl; exact rfl; exact slty83; (exact rds_tail2 (f := f + k) HJ.out.2 hs.b6); exact HL3.out; exact lvs_one; omega; (unfold maxLen; omega); clear hs; intro a9 c9 w hs; rw [HS.out] at hs)) | ((with_reducible refine isl ?_); first | ((with_reducible apply ldx); exact rfl; exact rfl; exact rfl; (exact hs.b3); exact rfl; kernel_rfl) | ((with_reducible apply stx); exact rfl; exact rfl; exact rfl; (exact hs.b3); exact rfl; exact rfl; exact rfl; kernel_rfl; exact rfl; clear hs; intro w hs)))
    refine end_end0 rfl rfl ⟨rfl, HG.out w a9 c9 ?_⟩
    have eN : f + m + j + r = N := by have := HJ.out; omega
    rw [eN] at hs
    refine sb_from ?_ hs; repeat constructor
end
end Go.Proofs.Ytdcagaaanbgcoaa
