/- Law 9: the document's Up, Down, InsertLines, DeleteLines. -/
import Derived.Test.YtdcagaaanbgcoaaSf
import Derived.Test.YtdcagaaanbgcoaaS24
import Derived.Test.YtdcagaaanbgcoaaSp
namespace Go.Proofs.Ytdcagaaanbgcoaa
open Go.RowKit Go.Mem Go.Cells Go.Lines
variable {W w : World} {H : List HProp}
section
variable {d v N cols n : Nat} {keeps : Bool} {top bot : Int} {L : List LN}
theorem dc_mid {w : World} {H : List HProp} (hn : L.length = n) (hs : sat W (dcP d v ⟨keeps, cols, top, bot, L⟩ :: H) w) : ∃ (a : Option Addr) (p : Nat), sat W (cel d 85 [.pointer (some ⟨v, 0, none⟩), .bool keeps, .int .i64 cols, .slice a n p, .int .i64 top, .int .i64 bot] :: (lnP 93 100 (.slice a n p) L) :: H) w ∧ (∀ w, sat W (cel d 85 [.pointer (some ⟨v, 0, none⟩), .bool keeps, .int .i64 cols, .slice a n p, .int .i64 top, .int .i64 bot] :: (lnP 93 100 (.slice a n p) L) :: H) w → sat W (dcP d v ⟨keeps, cols, top, bot, L⟩ :: H) w) := by
  subst hn
  unfold dcP at hs
  obtain ⟨a, hs⟩ := hs.ex
  obtain ⟨p, hs⟩ := hs.ex
  refine ⟨a, p, hs.unstar, fun w h => ?_⟩
  unfold dcP
  exact h.star.imp fun h k => ⟨a, p, k⟩
theorem dc_mk {w : World} {H : List HProp} {a : Option Addr} {p : Nat} (hn : L.length = n) (hs : sat W (cel d 85 [.pointer (some ⟨v, 0, none⟩), .bool keeps, .int .i64 cols, .slice a n p, .int .i64 top, .int .i64 bot] :: (lnP 93 100 (.slice a n p) L) :: H) w) : sat W (dcP d v ⟨keeps, cols, top, bot, L⟩ :: H) w := by
  subst hn
  unfold dcP
  exact hs.star.imp fun h k => ⟨a, p, k⟩
theorem dc_pf {w : World} {H : List HProp} (hs : sat W (dcP d v ⟨keeps, cols, top, bot, L⟩ :: H) w) : sat W (pf d [(1, .bool keeps), (4, .int .i64 top), (5, .int .i64 bot)] :: H) w := by
  obtain ⟨a, p, h, _⟩ := dc_mid rfl hs
  have h1 := h.b1.drop
  refine h1.pf _ ?_
  intro p hp
  simp only [List.mem_cons, List.not_mem_nil, or_false] at hp
  rcases hp with rfl | rfl | rfl <;> rfl
end
attribute [local irreducible] rowTy oneTy World.setCell World.setCells World.alloc World.drew World.drewN Calls sat cel own blk old wpQuiet wpList cmb cmb1 rwP cls rws wi wh fst_ World.rangeAt lrw lnP stP lsP dsP lvs frL downL upL pushs dcP Rds pf
section
variable {d v N cols most f k : Nat} {keeps : Bool} {top bot nx q : Int} {L SL : List LN} {at_ : At}
theorem ddn51 (hn : L.length = N) (hN : N ≤ 512) (ht : top = (f : Int)) (hb : bot = ((f + k : Nat) : Int) - 1) (hf : f + k ≤ N) (hk : 0 < k) (c0 : 1 ≤ cols) (c1 : cols ≤ 512) (hnx : 0 < nx) (hnb : nx + 512 ≤ 1000000)
    (hs : sat W (dcP d v ⟨keeps, cols, top, bot, L⟩ :: dsP v nx most SL :: H) w) :
    Calls Try.prog 51 #[.pointer (some ⟨d, 0, none⟩), .int .i64 q, aV at_] w fun e w' => e = .returned (.tuple #[]) ∧ sat W (dcP d v ⟨keeps, cols, top, bot, downL L f k (hld q k) (frL (hld q k) nx (frC cols at_))⟩ :: dsP v (nx + hld q k) most SL :: H) w' := by
  obtain ⟨fg, bg, fl⟩ := at_
  subst ht
  have HH := Lib.hid (And.intro hn (And.intro hN (And.intro hb (And.intro c1 hnb))))
  clear hb hN c1 hnb hn
  go_enter Try.func51, Try.ntmps51
  go_upto_region 1 with (((with_reducible refine isl ?_); first | ((with_reducible refine wrap hs ?_); clear hs; (generalize w.heap.size = z5); intro w hs)))
  refine region_mix [([0, 1, 2, 3, 4, 5, 6, 7, 8, 9, 10], [11])] [] hs (fun _ h => by (show sat W [pf d [(1, .bool keeps), (4, .int .i64 (f : Int)), (5, .int .i64 bot)], cel z5 25 [.int .u32 fg, .int .u32 bg, .int .u16 fl]] _; first | (refine dc_pf (v := v) (cols := cols) (L := L) ?_; refine sb_from ?_ h; (repeat constructor); done))) (by kernel_rfl) (by kernel_rfl) (fun _ _ _ _ _ h => h) ?_
  simp only [segs, nths, nth, List.append_nil, List.nil_append, List.cons_append, List.map_cons, List.map_nil]
  refine seg_reads (fun _ h => by (show sat W [pf d [(1, .bool keeps), (4, .int .i64 (f : Int)), (5, .int .i64 bot)], cel z5 25 [.int .u32 fg, .int .u32 bg, .int .u16 fl]] _; first | (refine dc_pf (v := v) (cols := cols) (L := L) ?_; refine sb_from ?_ h; (repeat constructor); done))) ?_; intro X f hne hf hcl; (try simp only [Act.put, List.setIfInBounds_toArray, List.set_cons_succ, List.set_cons_zero]); (repeat ((first | ((with_reducible apply ldpq (fun x => (hf x).b0)); exact rfl; exact rfl; exact rfl; (first | exact List.mem_cons_of_mem _ (List.mem_cons_self) | exact List.mem_cons_of_mem _ (List.mem_cons_of_mem _ (List.mem_cons_self))); kernel_rfl) | ((with_reducible apply ldsq (cs := [.int .u32 fg, .int .u32 bg, .int .u16 fl]) 3 (fun x => (hf x).b1)); exact rfl; exact rfl; exact rfl; exact row33; exact rfl; exact rfl) | go_big_quiet_step (fail)); (try simp only [Act.put, List.setIfInBounds_toArray, List.set_cons_succ, List.set_cons_zero]))); refine wpQuiet_nil ?_; clear hcl hf hne hs f X; intro w hs
  go_wp2_with ((go_at_call 71; refine (ddown71 (f := f) (k := k) (at_ := ⟨fg, bg, fl⟩) (q := q) HH.out.1 HH.out.2.1 hf hk HH.out.2.2.1 c0 HH.out.2.2.2.1 hnx HH.out.2.2.2.2 (by (apply sk_from (hs := hs); repeat constructor))).mono ?_; clear hs; rintro e w ⟨rfl, hs⟩))
  (refine seg_on hs (fun _ h => h) ?_ ?_)
  · exact fun _ h => by (show sat W [pf d [(1, .bool keeps), (4, .int .i64 (f : Int)), (5, .int .i64 bot)], cel z5 25 [.int .u32 fg, .int .u32 bg, .int .u16 fl]] _; first | (refine dc_pf (v := v) (cols := cols) (L := downL L f k (hld q k) (frL (hld q k) nx (frC cols ⟨fg, bg, fl⟩))) ?_; refine sb_from ?_ h; (repeat constructor); done))
  clear hs; intro hs
  refine seg_last (fun _ h => by (show sat W [pf d [(1, .bool keeps), (4, .int .i64 (f : Int)), (5, .int .i64 bot)], cel z5 25 [.int .u32 fg, .int .u32 bg, .int .u16 fl]] _; first | (refine dc_pf (v := v) (cols := cols) (L := downL L f k (hld q k) (frL (hld q k) nx (frC cols ⟨fg, bg, fl⟩))) ?_; refine sb_from ?_ h; (repeat constructor); done))) ?_; intro X f hne hf hcl; (try simp only [Act.put, List.setIfInBounds_toArray, List.set_cons_succ, List.set_cons_zero]); (repeat ((fail); (try simp only [Act.put, List.setIfInBounds_toArray, List.set_cons_succ, List.set_cons_zero]))); refine wpQuiet_nil ?_; clear hcl hf hne hs f X; intro w hs
  go_wp2_with fail
  refine end_end0 rfl rfl ⟨rfl, by refine sb_from ?_ hs; repeat constructor⟩
theorem dins52 (hn : L.length = N) (hN : N ≤ 512) (ht : top ≤ (f : Int)) (hb : bot = ((f + k : Nat) : Int) - 1) (hf : f + k ≤ N) (hk : 0 < k) (c0 : 1 ≤ cols) (c1 : cols ≤ 512) (hnx : 0 < nx) (hnb : nx + 512 ≤ 1000000)
    (hs : sat W (dcP d v ⟨keeps, cols, top, bot, L⟩ :: dsP v nx most SL :: H) w) :
    Calls Try.prog 52 #[.pointer (some ⟨d, 0, none⟩), .int .i64 (f : Int), .int .i64 q, aV at_] w fun e w' => e = .returned (.int .i64 0) ∧ sat W (dcP d v ⟨keeps, cols, top, bot, downL L f k (hld q k) (frL (hld q k) nx (frC cols at_))⟩ :: dsP v (nx + hld q k) most SL :: H) w' := by
  obtain ⟨fg, bg, fl⟩ := at_
  have HH := Lib.hid (And.intro hn (And.intro hN (And.intro hb (And.intro c1 hnb))))
  have g1 : decide ((f : Int) < top) = false := decide_eq_false (by omega)
  have g2 : decide (bot < (f : Int)) = false := decide_eq_false (by omega)
  have HZ : Hid (∀ (w : World) (H : List HProp), sat W (dcP d v ⟨keeps, cols, top, bot, L⟩ :: H) w → ∃ (a : Option Addr) (p : Nat), sat W (cel d 85 [.pointer (some ⟨v, 0, none⟩), .bool keeps, .int .i64 cols, .slice a N p, .int .i64 top, .int .i64 bot] :: (lnP 93 100 (.slice a N p) L) :: H) w ∧ (∀ w, sat W (cel d 85 [.pointer (some ⟨v, 0, none⟩), .bool keeps, .int .i64 cols, .slice a N p, .int .i64 top, .int .i64 bot] :: (lnP 93 100 (.slice a N p) L) :: H) w → sat W (dcP d v ⟨keeps, cols, top, bot, L⟩ :: H) w)) := Lib.hid fun w H h => dc_mid hn h
  clear hb hN c1 hnb hn ht
  obtain ⟨a, p, hs, HZ2⟩ := HZ.out _ _ hs
  have HZ3 := Lib.hid HZ2
  clear HZ HZ2
  go_enter Try.func52, Try.ntmps52
  go_upto_region 3 with (((with_reducible refine isl ?_); first | ((with_reducible apply ldx); exact rfl; exact rfl; exact rfl; (exact hs.b1); exact rfl; kernel_rfl) | ((with_reducible refine wrap hs ?_); clear hs; (generalize w.heap.size = z5); intro w hs)))
  have hs1 : sat W (cel d 85 [.pointer (some ⟨v, 0, none⟩), .bool keeps, .int .i64 cols, .slice a N p, .int .i64 top, .int .i64 bot] :: (lnP 93 100 (.slice a N p) L) :: cel z5 25 [.int .u32 fg, .int .u32 bg, .int .u16 fl] :: dsP v nx most SL :: H) w := by refine sb_from ?_ hs; repeat constructor
  clear hs
  have hs2 := dc_mk HH.out.1 hs1
  clear hs1 HZ3
  have hs := hs2
  clear hs2
  refine region_mix [([0, 1, 2, 3, 4, 5, 6, 7], [8])] [] hs (fun _ h => by (show sat W [pf d [(1, .bool keeps), (4, .int .i64 top), (5, .int .i64 bot)], cel z5 25 [.int .u32 fg, .int .u32 bg, .int .u16 fl]] _; first | (refine dc_pf (v := v) (cols := cols) (L := L) ?_; refine sb_from ?_ h; (repeat constructor); done))) (by kernel_rfl) (by kernel_rfl) (fun _ _ _ _ _ h => h) ?_
  simp only [segs, nths, nth, List.append_nil, List.nil_append, List.cons_append, List.map_cons, List.map_nil]
  refine seg_reads (fun _ h => by (show sat W [pf d [(1, .bool keeps), (4, .int .i64 top), (5, .int .i64 bot)], cel z5 25 [.int .u32 fg, .int .u32 bg, .int .u16 fl]] _; first | (refine dc_pf (v := v) (cols := cols) (L := L) ?_; refine sb_from ?_ h; (repeat constructor); done))) ?_; intro X f hne hf hcl; (try simp only [Act.put, List.setIfInBounds_toArray, List.set_cons_succ, List.set_cons_zero]); (repeat ((first | ((with_reducible apply ldpq (fun x => (hf x).b0)); exact rfl; exact rfl; exact rfl; (exact List.mem_cons_of_mem _ (List.mem_cons_of_mem _ (List.mem_cons_self))); kernel_rfl) | ((with_reducible apply ldsq (cs := [.int .u32 fg, .int .u32 bg, .int .u16 fl]) 3 (fun x => (hf x).b1)); exact rfl; exact rfl; exact rfl; exact row33; exact rfl; exact rfl) | go_big_quiet_step (fail)); (try simp only [Act.put, List.setIfInBounds_toArray, List.set_cons_succ, List.set_cons_zero]))); refine wpQuiet_nil ?_; clear hcl hf hne hs f X; intro w hs
  go_wp2_with ((go_at_call 71; refine (ddown71 (f := f) (k := k) (at_ := ⟨fg, bg, fl⟩) (q := q) HH.out.1 HH.out.2.1 hf hk HH.out.2.2.1 c0 HH.out.2.2.2.1 hnx HH.out.2.2.2.2 (by (apply sk_from (hs := hs); repeat constructor))).mono ?_; clear hs; rintro e w ⟨rfl, hs⟩))
  (refine seg_on hs (fun _ h => h) ?_ ?_)
  · exact fun _ h => by (show sat W [pf d [(1, .bool keeps), (4, .int .i64 top), (5, .int .i64 bot)], cel z5 25 [.int .u32 fg, .int .u32 bg, .int .u16 fl]] _; first | (refine dc_pf (v := v) (cols := cols) (L := downL L f k (hld q k) (frL (hld q k) nx (frC cols ⟨fg, bg, fl⟩))) ?_; refine sb_from ?_ h; (repeat constructor); done))
  clear hs; intro hs
  refine seg_last (fun _ h => by (show sat W [pf d [(1, .bool keeps), (4, .int .i64 top), (5, .int .i64 bot)], cel z5 25 [.int .u32 fg, .int .u32 bg, .int .u16 fl]] _; first | (refine dc_pf (v := v) (cols := cols) (L := downL L f k (hld q k) (frL (hld q k) nx (frC cols ⟨fg, bg, fl⟩))) ?_; refine sb_from ?_ h; (repeat constructor); done))) ?_; intro X f hne hf hcl; (try simp only [Act.put, List.setIfInBounds_toArray, List.set_cons_succ, List.set_cons_zero]); (repeat ((fail); (try simp only [Act.put, List.setIfInBounds_toArray, List.set_cons_succ, List.set_cons_zero]))); refine wpQuiet_nil ?_; clear hcl hf hne hs f X; intro w hs
  go_wp2_with fail
  go_ret
  exact ⟨rfl, by refine sb_from ?_ hs; repeat constructor⟩
theorem dins52_no {at2 : Int} (hn : L.length = N) (ha : at2 < top ∨ bot < at2) (hs : sat W (dcP d v ⟨keeps, cols, top, bot, L⟩ :: H) w) :
    Calls Try.prog 52 #[.pointer (some ⟨d, 0, none⟩), .int .i64 at2, .int .i64 q, aV at_] w fun e w' => e = .returned (.int .i64 2) ∧ sat W (dcP d v ⟨keeps, cols, top, bot, L⟩ :: H) w' := by
  obtain ⟨fg, bg, fl⟩ := at_
  obtain ⟨ps, a, p, HO, hs⟩ := dc_open hn hs
  clear hn
  by_cases h1 : at2 < top
  · have g1 : decide (at2 < top) = true := decide_eq_true h1
    clear ha h1
    go_enter Try.func52, Try.ntmps52
    go_wp2_with (((with_reducible refine isl ?_); first | ((with_reducible apply ldx); exact rfl; exact rfl; exact rfl; (exact hs.b1); exact rfl; kernel_rfl) | ((with_reducible refine wrap hs ?_); clear hs; (generalize w.heap.size = z5); intro w hs)))
    go_ret
    exact ⟨rfl, dc_close HO (by refine sb_from ?_ hs; repeat constructor)⟩
  · have g1 : decide (at2 < top) = false := decide_eq_false h1
    have g2 : decide (bot < at2) = true := decide_eq_true (by omega)
    clear ha h1
    go_enter Try.func52, Try.ntmps52
    go_wp2_with (((with_reducible refine isl ?_); first | ((with_reducible apply ldx); exact rfl; exact rfl; exact rfl; (exact hs.b1); exact rfl; kernel_rfl) | ((with_reducible refine wrap hs ?_); clear hs; (generalize w.heap.size = z5); intro w hs)))
    go_ret
    exact ⟨rfl, dc_close HO (by refine sb_from ?_ hs; repeat constructor)⟩
theorem ddel53 (hn : L.length = N) (hN : N ≤ 512) (ht : top ≤ (f : Int)) (hb : bot = ((f + k : Nat) : Int) - 1) (hf : f + k ≤ N) (hk : 0 < k) (c0 : 1 ≤ cols) (c1 : cols ≤ 512) (hnx : 0 < nx) (hnb : nx + 512 ≤ 1000000)
    (hs : sat W (dcP d v ⟨keeps, cols, top, bot, L⟩ :: dsP v nx most SL :: H) w) :
    Calls Try.prog 53 #[.pointer (some ⟨d, 0, none⟩), .int .i64 (f : Int), .int .i64 q, aV at_] w fun e w' => e = .returned (.int .i64 0) ∧ sat W (dcP d v ⟨keeps, cols, top, bot, upL L f k (hld q k) (frL (hld q k) nx (frC cols at_))⟩ :: dsP v (nx + hld q k) most SL :: H) w' := by
  obtain ⟨fg, bg, fl⟩ := at_
  have HH := Lib.hid (And.intro hn (And.intro hN (And.intro hb (And.intro c1 hnb))))
  have g1 : decide ((f : Int) < top) = false := decide_eq_false (by omega)
  have g2 : decide (bot < (f : Int)) = false := decide_eq_false (by omega)
  have HZ : Hid (∀ (w : World) (H : List HProp), sat W (dcP d v ⟨keeps, cols, top, bot, L⟩ :: H) w → ∃ (a : Option Addr) (p : Nat), sat W (cel d 85 [.pointer (some ⟨v, 0, none⟩), .bool keeps, .int .i64 cols, .slice a N p, .int .i64 top, .int .i64 bot] :: (lnP 93 100 (.slice a N p) L) :: H) w ∧ (∀ w, sat W (cel d 85 [.pointer (some ⟨v, 0, none⟩), .bool keeps, .int .i64 cols, .slice a N p, .int .i64 top, .int .i64 bot] :: (lnP 93 100 (.slice a N p) L) :: H) w → sat W (dcP d v ⟨keeps, cols, top, bot, L⟩ :: H) w)) := Lib.hid fun w H h => dc_mid hn h
  clear hb hN c1 hnb hn ht
  obtain ⟨a, p, hs, HZ2⟩ := HZ.out _ _ hs
  have HZ3 := Lib.hid HZ2
  clear HZ HZ2
  go_enter Try.func53, Try.ntmps53
  go_upto_region 3 with (((with_reducible refine isl ?_); first | ((with_reducible apply ldx); exact rfl; exact rfl; exact rfl; (exact hs.b1); exact rfl; kernel_rfl) | ((with_reducible refine wrap hs ?_); clear hs; (generalize w.heap.size = z5); intro w hs)))
  have hs1 : sat W (cel d 85 [.pointer (some ⟨v, 0, none⟩), .bool keeps, .int .i64 cols, .slice a N p, .int .i64 top, .int .i64 bot] :: (lnP 93 100 (.slice a N p) L) :: cel z5 25 [.int .u32 fg, .int .u32 bg, .int .u16 fl] :: dsP v nx most SL :: H) w := by refine sb_from ?_ hs; repeat constructor
  clear hs
  have hs2 := dc_mk HH.out.1 hs1
  clear hs1 HZ3
  have hs := hs2
  clear hs2
  refine region_mix [([0, 1, 2, 3, 4, 5, 6, 7], [8])] [] hs (fun _ h => by (show sat W [pf d [(1, .bool keeps), (4, .int .i64 top), (5, .int .i64 bot)], cel z5 25 [.int .u32 fg, .int .u32 bg, .int .u16 fl]] _; first | (refine dc_pf (v := v) (cols := cols) (L := L) ?_; refine sb_from ?_ h; (repeat constructor); done))) (by kernel_rfl) (by kernel_rfl) (fun _ _ _ _ _ h => h) ?_
  simp only [segs, nths, nth, List.append_nil, List.nil_append, List.cons_append, List.map_cons, List.map_nil]
  refine seg_reads (fun _ h => by (show sat W [pf d [(1, .bool keeps), (4, .int .i64 top), (5, .int .i64 bot)], cel z5 25 [.int .u32 fg, .int .u32 bg, .int .u16 fl]] _; first | (refine dc_pf (v := v) (cols := cols) (L := L) ?_; refine sb_from ?_ h; (repeat constructor); done))) ?_; intro X f hne hf hcl; (try simp only [Act.put, List.setIfInBounds_toArray, List.set_cons_succ, List.set_cons_zero]); (repeat ((first | ((with_reducible apply ldpq (fun x => (hf x).b0)); exact rfl; exact rfl; exact rfl; (exact List.mem_cons_of_mem _ (List.mem_cons_of_mem _ (List.mem_cons_self))); kernel_rfl) | ((with_reducible apply ldsq (cs := [.int .u32 fg, .int .u32 bg, .int .u16 fl]) 3 (fun x => (hf x).b1)); exact rfl; exact rfl; exact rfl; exact row33; exact rfl; exact rfl) | go_big_quiet_step (fail)); (try simp only [Act.put, List.setIfInBounds_toArray, List.set_cons_succ, List.set_cons_zero]))); refine wpQuiet_nil ?_; clear hcl hf hne hs f X; intro w hs
  go_wp2_with ((go_at_call 70; refine (dup70_false (f := f) (k := k) (at_ := ⟨fg, bg, fl⟩) (q := q) HH.out.1 HH.out.2.1 hf hk HH.out.2.2.1 c0 HH.out.2.2.2.1 hnx HH.out.2.2.2.2 (by (apply sk_from (hs := hs); repeat constructor))).mono ?_; clear hs; rintro e w ⟨rfl, hs⟩))
  (refine seg_on hs (fun _ h => h) ?_ ?_)
  · exact fun _ h => by (show sat W [pf d [(1, .bool keeps), (4, .int .i64 top), (5, .int .i64 bot)], cel z5 25 [.int .u32 fg, .int .u32 bg, .int .u16 fl]] _; first | (refine dc_pf (v := v) (cols := cols) (L := upL L f k (hld q k) (frL (hld q k) nx (frC cols ⟨fg, bg, fl⟩))) ?_; refine sb_from ?_ h; (repeat constructor); done))
  clear hs; intro hs
  refine seg_last (fun _ h => by (show sat W [pf d [(1, .bool keeps), (4, .int .i64 top), (5, .int .i64 bot)], cel z5 25 [.int .u32 fg, .int .u32 bg, .int .u16 fl]] _; first | (refine dc_pf (v := v) (cols := cols) (L := upL L f k (hld q k) (frL (hld q k) nx (frC cols ⟨fg, bg, fl⟩))) ?_; refine sb_from ?_ h; (repeat constructor); done))) ?_; intro X f hne hf hcl; (try simp only [Act.put, List.setIfInBounds_toArray, List.set_cons_succ, List.set_cons_zero]); (repeat ((fail); (try simp only [Act.put, List.setIfInBounds_toArray, List.set_cons_succ, List.set_cons_zero]))); refine wpQuiet_nil ?_; clear hcl hf hne hs f X; intro w hs
  go_wp2_with fail
  go_ret
  exact ⟨rfl, by refine sb_from ?_ hs; repeat constructor⟩
theorem ddel53_no {at2 : Int} (hn : L.length = N) (ha : at2 < top ∨ bot < at2) (hs : sat W (dcP d v ⟨keeps, cols, top, bot, L⟩ :: H) w) :
    Calls Try.prog 53 #[.pointer (some ⟨d, 0, none⟩), .int .i64 at2, .int .i64 q, aV at_] w fun e w' => e = .returned (.int .i64 2) ∧ sat W (dcP d v ⟨keeps, cols, top, bot, L⟩ :: H) w' := by
  obtain ⟨fg, bg, fl⟩ := at_
  obtain ⟨ps, a, p, HO, hs⟩ := dc_open hn hs
  clear hn
  by_cases h1 : at2 < top
  · have g1 : decide (at2 < top) = true := decide_eq_true h1
    clear ha h1
    go_enter Try.func53, Try.ntmps53
    go_wp2_with (((with_reducible refine isl ?_); first | ((with_reducible apply ldx); exact rfl; exact rfl; exact rfl; (exact hs.b1); exact rfl; kernel_rfl) | ((with_reducible refine wrap hs ?_); clear hs; (generalize w.heap.size = z5); intro w hs)))
    go_ret
    exact ⟨rfl, dc_close HO (by refine sb_from ?_ hs; repeat constructor)⟩
  · have g1 : decide (at2 < top) = false := decide_eq_false h1
    have g2 : decide (bot < at2) = true := decide_eq_true (by omega)
    clear ha h1
    go_enter Try.func53, Try.ntmps53
    go_wp2_with (((with_reducible refine isl ?_); first | ((with_reducible apply ldx); exact rfl; exact rfl; exact rfl; (exact hs.b1); exact rfl; kernel_rfl) | ((with_reducible refine wrap hs ?_); clear hs; (generalize w.heap.size = z5); intro w hs)))
    go_ret
    exact ⟨rfl, dc_close HO (by refine sb_from ?_ hs; repeat constructor)⟩
theorem dup50_no (hn : L.length = N) (hN : N ≤ 512) (ht : top = (f : Int)) (hb : bot = ((f + k : Nat) : Int) - 1) (hf : f + k ≤ N) (hk : 0 < k) (c0 : 1 ≤ cols) (c1 : cols ≤ 512) (hnx : 0 < nx) (hnb : nx + 512 ≤ 1000000)
    (hs : sat W (dcP d v ⟨false, cols, top, bot, L⟩ :: dsP v nx most SL :: H) w) :
    Calls Try.prog 50 #[.pointer (some ⟨d, 0, none⟩), .int .i64 q, aV at_] w fun e w' => e = .returned (.tuple #[]) ∧ sat W (dcP d v ⟨false, cols, top, bot, upL L f k (hld q k) (frL (hld q k) nx (frC cols at_))⟩ :: dsP v (nx + hld q k) most SL :: H) w' := by
  obtain ⟨fg, bg, fl⟩ := at_
  subst ht
  have HH := Lib.hid (And.intro hn (And.intro hN (And.intro hb (And.intro c1 hnb))))
  clear hb hN c1 hnb hn
  go_enter Try.func50, Try.ntmps50
  go_upto_region 1 with (((with_reducible refine isl ?_); first | ((with_reducible refine wrap hs ?_); clear hs; (generalize w.heap.size = z5); intro w hs)))
  refine region_mix [([0, 1, 2, 3, 4, 5, 6, 7, 8, 9, 10, 11, 12, 13, 14, 15, 16, 17, 18, 19, 20, 21], [22])] [] hs (fun _ h => by (show sat W [pf d [(1, .bool false), (4, .int .i64 (f : Int)), (5, .int .i64 bot)], cel z5 25 [.int .u32 fg, .int .u32 bg, .int .u16 fl]] _; first | (refine dc_pf (v := v) (cols := cols) (L := L) ?_; refine sb_from ?_ h; (repeat constructor); done))) (by kernel_rfl) (by kernel_rfl) (fun _ _ _ _ _ h => h) ?_
  simp only [segs, nths, nth, List.append_nil, List.nil_append, List.cons_append, List.map_cons, List.map_nil]
  refine seg_reads (fun _ h => by (show sat W [pf d [(1, .bool false), (4, .int .i64 (f : Int)), (5, .int .i64 bot)], cel z5 25 [.int .u32 fg, .int .u32 bg, .int .u16 fl]] _; first | (refine dc_pf (v := v) (cols := cols) (L := L) ?_; refine sb_from ?_ h; (repeat constructor); done))) ?_; intro X f hne hf hcl; (try simp only [Act.put, List.setIfInBounds_toArray, List.set_cons_succ, List.set_cons_zero]); (repeat ((first | ((with_reducible apply ldpq (fun x => (hf x).b0)); exact rfl; exact rfl; exact rfl; (first | exact List.mem_cons_self | exact List.mem_cons_of_mem _ (List.mem_cons_self) | exact List.mem_cons_of_mem _ (List.mem_cons_of_mem _ (List.mem_cons_self))); kernel_rfl) | ((with_reducible apply ldsq (cs := [.int .u32 fg, .int .u32 bg, .int .u16 fl]) 3 (fun x => (hf x).b1)); exact rfl; exact rfl; exact rfl; exact row33; exact rfl; exact rfl) | go_big_quiet_step (fail)); (try simp only [Act.put, List.setIfInBounds_toArray, List.set_cons_succ, List.set_cons_zero]))); refine wpQuiet_nil ?_; clear hcl hf hne hs f X; intro w hs
  go_wp2_with ((go_at_call 70; refine (dup70_false (f := f) (k := k) (at_ := ⟨fg, bg, fl⟩) (q := q) HH.out.1 HH.out.2.1 hf hk HH.out.2.2.1 c0 HH.out.2.2.2.1 hnx HH.out.2.2.2.2 (by (apply sk_from (hs := hs); repeat constructor))).mono ?_; clear hs; rintro e w ⟨rfl, hs⟩))
  (refine seg_on hs (fun _ h => h) ?_ ?_)
  · exact fun _ h => by (show sat W [pf d [(1, .bool false), (4, .int .i64 (f : Int)), (5, .int .i64 bot)], cel z5 25 [.int .u32 fg, .int .u32 bg, .int .u16 fl]] _; first | (refine dc_pf (v := v) (cols := cols) (L := upL L f k (hld q k) (frL (hld q k) nx (frC cols ⟨fg, bg, fl⟩))) ?_; refine sb_from ?_ h; (repeat constructor); done))
  clear hs; intro hs
  refine seg_last (fun _ h => by (show sat W [pf d [(1, .bool false), (4, .int .i64 (f : Int)), (5, .int .i64 bot)], cel z5 25 [.int .u32 fg, .int .u32 bg, .int .u16 fl]] _; first | (refine dc_pf (v := v) (cols := cols) (L := upL L f k (hld q k) (frL (hld q k) nx (frC cols ⟨fg, bg, fl⟩))) ?_; refine sb_from ?_ h; (repeat constructor); done))) ?_; intro X f hne hf hcl; (try simp only [Act.put, List.setIfInBounds_toArray, List.set_cons_succ, List.set_cons_zero]); (repeat ((fail); (try simp only [Act.put, List.setIfInBounds_toArray, List.set_cons_succ, List.set_cons_zero]))); refine wpQuiet_nil ?_; clear hcl hf hne hs f X; intro w hs
  go_wp2_with fail
  refine end_end0 rfl rfl ⟨rfl, by refine sb_from ?_ hs; repeat constructor⟩
theorem dup50_mid (hn : L.length = N) (hN : N ≤ 512) (ht : top = (f : Int)) (hb : bot = ((f + k : Nat) : Int) - 1) (hf : f + k ≤ N) (hk : 0 < k) (c0 : 1 ≤ cols) (c1 : cols ≤ 512) (hnx : 0 < nx) (hnb : nx + 512 ≤ 1000000) (hf0 : 0 < f)
    (hs : sat W (dcP d v ⟨true, cols, top, bot, L⟩ :: dsP v nx most SL :: H) w) :
    Calls Try.prog 50 #[.pointer (some ⟨d, 0, none⟩), .int .i64 q, aV at_] w fun e w' => e = .returned (.tuple #[]) ∧ sat W (dcP d v ⟨true, cols, top, bot, upL L f k (hld q k) (frL (hld q k) nx (frC cols at_))⟩ :: dsP v (nx + hld q k) most SL :: H) w' := by
  obtain ⟨fg, bg, fl⟩ := at_
  subst ht
  have HH := Lib.hid (And.intro hn (And.intro hN (And.intro hb (And.intro c1 hnb))))
  have g1 : ((f : Int) == 0) = false := beq_eq_false_iff_ne.2 (by omega)
  have g2 : decide ((f : Int) = 0) = false := decide_eq_false (by omega)
  have g3 : ¬ (f : Int) = 0 := by omega
  have g4 : ¬ f = 0 := by omega
  clear hb hN c1 hnb hn
  go_enter Try.func50, Try.ntmps50
  go_upto_region 1 with (((with_reducible refine isl ?_); first | ((with_reducible refine wrap hs ?_); clear hs; (generalize w.heap.size = z5); intro w hs)))
  refine region_mix [([0, 1, 2, 3, 4, 5, 6, 7, 8, 9, 10, 11, 12, 13, 14, 15, 16, 17, 18, 19, 20, 21], [22])] [] hs (fun _ h => by (show sat W [pf d [(1, .bool true), (4, .int .i64 (f : Int)), (5, .int .i64 bot)], cel z5 25 [.int .u32 fg, .int .u32 bg, .int .u16 fl]] _; first | (refine dc_pf (v := v) (cols := cols) (L := L) ?_; refine sb_from ?_ h; (repeat constructor); done))) (by kernel_rfl) (by kernel_rfl) (fun _ _ _ _ _ h => h) ?_
  simp only [segs, nths, nth, List.append_nil, List.nil_append, List.cons_append, List.map_cons, List.map_nil]
  refine seg_reads (fun _ h => by (show sat W [pf d [(1, .bool true), (4, .int .i64 (f : Int)), (5, .int .i64 bot)], cel z5 25 [.int .u32 fg, .int .u32 bg, .int .u16 fl]] _; first | (refine dc_pf (v := v) (cols := cols) (L := L) ?_; refine sb_from ?_ h; (repeat constructor); done))) ?_; intro X f hne hf hcl; (try simp only [Act.put, List.setIfInBounds_toArray, List.set_cons_succ, List.set_cons_zero]); (repeat ((first | ((with_reducible apply ldpq (fun x => (hf x).b0)); exact rfl; exact rfl; exact rfl; (first | exact List.mem_cons_self | exact List.mem_cons_of_mem _ (List.mem_cons_self) | exact List.mem_cons_of_mem _ (List.mem_cons_of_mem _ (List.mem_cons_self))); kernel_rfl) | ((with_reducible apply ldsq (cs := [.int .u32 fg, .int .u32 bg, .int .u16 fl]) 3 (fun x => (hf x).b1)); exact rfl; exact rfl; exact rfl; exact row33; exact rfl; exact rfl) | go_big_quiet_step (fail)); (try simp only [Act.put, List.setIfInBounds_toArray, List.set_cons_succ, List.set_cons_zero]))); refine wpQuiet_nil ?_; clear hcl hf hne hs f X; intro w hs
  go_wp2_with ((go_at_call 70; refine (dup70_false (f := f) (k := k) (at_ := ⟨fg, bg, fl⟩) (q := q) HH.out.1 HH.out.2.1 hf hk HH.out.2.2.1 c0 HH.out.2.2.2.1 hnx HH.out.2.2.2.2 (by (apply sk_from (hs := hs); repeat constructor))).mono ?_; clear hs; rintro e w ⟨rfl, hs⟩))
  (refine seg_on hs (fun _ h => h) ?_ ?_)
  · exact fun _ h => by (show sat W [pf d [(1, .bool true), (4, .int .i64 (f : Int)), (5, .int .i64 bot)], cel z5 25 [.int .u32 fg, .int .u32 bg, .int .u16 fl]] _; first | (refine dc_pf (v := v) (cols := cols) (L := upL L f k (hld q k) (frL (hld q k) nx (frC cols ⟨fg, bg, fl⟩))) ?_; refine sb_from ?_ h; (repeat constructor); done))
  clear hs; intro hs
  refine seg_last (fun _ h => by (show sat W [pf d [(1, .bool true), (4, .int .i64 (f : Int)), (5, .int .i64 bot)], cel z5 25 [.int .u32 fg, .int .u32 bg, .int .u16 fl]] _; first | (refine dc_pf (v := v) (cols := cols) (L := upL L f k (hld q k) (frL (hld q k) nx (frC cols ⟨fg, bg, fl⟩))) ?_; refine sb_from ?_ h; (repeat constructor); done))) ?_; intro X f hne hf hcl; (try simp only [Act.put, List.setIfInBounds_toArray, List.set_cons_succ, List.set_cons_zero]); (repeat ((fail); (try simp only [Act.put, List.setIfInBounds_toArray, List.set_cons_succ, List.set_cons_zero]))); refine wpQuiet_nil ?_; clear hcl hf hne hs f X; intro w hs
  go_wp2_with fail
  refine end_end0 rfl rfl ⟨rfl, by refine sb_from ?_ hs; repeat constructor⟩
theorem dup50_push (hn : L.length = N) (hN : N ≤ 512) (ht : top = (f : Int)) (hb : bot = ((f + k : Nat) : Int) - 1) (hf : f + k ≤ N) (hk : 0 < k) (c0 : 1 ≤ cols) (c1 : cols ≤ 512) (hnx : 0 < nx) (hnb : nx + 512 ≤ 1000000) (hf0 : f = 0) (ok : LOK L) (idk : IDK nx L) (hsl : SL.length ≤ most) (hmo : most ≤ 10000)
    (hs : sat W (dcP d v ⟨true, cols, top, bot, L⟩ :: dsP v nx most SL :: H) w) :
    Calls Try.prog 50 #[.pointer (some ⟨d, 0, none⟩), .int .i64 q, aV at_] w fun e w' => e = .returned (.tuple #[]) ∧ sat W (dcP d v ⟨true, cols, top, bot, upL L f k (hld q k) (frL (hld q k) nx (frC cols at_))⟩ :: dsP v (nx + hld q k) most (pushs most SL ((L.drop f).take (hld q k))) :: H) w' := by
  obtain ⟨fg, bg, fl⟩ := at_
  subst ht
  have HH := Lib.hid (And.intro hn (And.intro hN (And.intro hb (And.intro c1 hnb))))
  subst hf0
  clear hb hN c1 hnb hn
  go_enter Try.func50, Try.ntmps50
  go_upto_region 1 with (((with_reducible refine isl ?_); first | ((with_reducible refine wrap hs ?_); clear hs; (generalize w.heap.size = z5); intro w hs)))
  refine region_mix [([0, 1, 2, 3, 4, 5, 6, 7, 8, 9, 10, 11, 12, 13, 14, 15, 16, 17, 18, 19, 20, 21], [22])] [] hs (fun _ h => by (show sat W [pf d [(1, .bool true), (4, .int .i64 ((0 : Nat) : Int)), (5, .int .i64 bot)], cel z5 25 [.int .u32 fg, .int .u32 bg, .int .u16 fl]] _; first | (refine dc_pf (v := v) (cols := cols) (L := L) ?_; refine sb_from ?_ h; (repeat constructor); done))) (by kernel_rfl) (by kernel_rfl) (fun _ _ _ _ _ h => h) ?_
  simp only [segs, nths, nth, List.append_nil, List.nil_append, List.cons_append, List.map_cons, List.map_nil]
  refine seg_reads (fun _ h => by (show sat W [pf d [(1, .bool true), (4, .int .i64 ((0 : Nat) : Int)), (5, .int .i64 bot)], cel z5 25 [.int .u32 fg, .int .u32 bg, .int .u16 fl]] _; first | (refine dc_pf (v := v) (cols := cols) (L := L) ?_; refine sb_from ?_ h; (repeat constructor); done))) ?_; intro X f hne hf hcl; (try simp only [Act.put, List.setIfInBounds_toArray, List.set_cons_succ, List.set_cons_zero]); (repeat ((first | ((with_reducible apply ldpq (fun x => (hf x).b0)); exact rfl; exact rfl; exact rfl; (first | exact List.mem_cons_self | exact List.mem_cons_of_mem _ (List.mem_cons_self) | exact List.mem_cons_of_mem _ (List.mem_cons_of_mem _ (List.mem_cons_self))); kernel_rfl) | ((with_reducible apply ldsq (cs := [.int .u32 fg, .int .u32 bg, .int .u16 fl]) 3 (fun x => (hf x).b1)); exact rfl; exact rfl; exact rfl; exact row33; exact rfl; exact rfl) | go_big_quiet_step (fail)); (try simp only [Act.put, List.setIfInBounds_toArray, List.set_cons_succ, List.set_cons_zero]))); refine wpQuiet_nil ?_; clear hcl hf hne hs f X; intro w hs
  go_wp2_with ((go_at_call 70; refine (dup70_true (f := 0) (k := k) (at_ := ⟨fg, bg, fl⟩) (q := q) HH.out.1 HH.out.2.1 hf hk HH.out.2.2.1 c0 HH.out.2.2.2.1 hnx HH.out.2.2.2.2 ok idk hsl hmo (by (apply sk_from (hs := hs); repeat constructor))).mono ?_; clear hs; rintro e w ⟨rfl, hs⟩))
  (refine seg_on hs (fun _ h => h) ?_ ?_)
  · exact fun _ h => by (show sat W [pf d [(1, .bool true), (4, .int .i64 ((0 : Nat) : Int)), (5, .int .i64 bot)], cel z5 25 [.int .u32 fg, .int .u32 bg, .int .u16 fl]] _; first | (refine dc_pf (v := v) (cols := cols) (L := upL L 0 k (hld q k) (frL (hld q k) nx (frC cols ⟨fg, bg, fl⟩))) ?_; refine sb_from ?_ h; (repeat constructor); done))
  clear hs; intro hs
  refine seg_last (fun _ h => by (show sat W [pf d [(1, .bool true), (4, .int .i64 ((0 : Nat) : Int)), (5, .int .i64 bot)], cel z5 25 [.int .u32 fg, .int .u32 bg, .int .u16 fl]] _; first | (refine dc_pf (v := v) (cols := cols) (L := upL L 0 k (hld q k) (frL (hld q k) nx (frC cols ⟨fg, bg, fl⟩))) ?_; refine sb_from ?_ h; (repeat constructor); done))) ?_; intro X f hne hf hcl; (try simp only [Act.put, List.setIfInBounds_toArray, List.set_cons_succ, List.set_cons_zero]); (repeat ((fail); (try simp only [Act.put, List.setIfInBounds_toArray, List.set_cons_succ, List.set_cons_zero]))); refine wpQuiet_nil ?_; clear hcl hf hne hs f X; intro w hs
  go_wp2_with fail
  refine end_end0 rfl rfl ⟨rfl, by refine sb_from ?_ hs; repeat constructor⟩
end
end Go.Proofs.Ytdcagaaanbgcoaa
