import Derived.Test.YtdbhgjkdblhhkaaP2
namespace Go.Proofs.Ytdbhgjkdblhhkaa
open Go.RowKit Go.Mem
variable {W w : World} {H : List HProp}
theorem slty25 : SlTy Try.prog 25 3 1 8 := ⟨Try.underlying25, by obtain ⟨i0, hi, hz0, hz1, hz2⟩ := info_parts (show (Try.prog.info? 3).map (fun i => (i.zero, i.size, i.bytes)) = some (some (.int .i64 0), 1, 8) by kernel_rfl); exact ⟨i0, _, hi, hz0, hz1, hz2, rfl⟩, by decide⟩
abbrev natsV (l : List Nat) : List Value := l.map fun b : Nat => Value.int .i64 (b : Int)
attribute [local irreducible] World.setCell World.setCells World.alloc World.drew World.drewN Calls sat cel own blk old wpQuiet wpList
theorem all27 {a : Option Addr} {n c : Nat} {wd : Int} (hs : sat W H w) : Calls Try.prog 27 #[.slice a n c, .int .i64 wd] w fun e w' => ∃ zc zw, e = .returned (.func (.func 33) #[] #[.pointer (some ⟨zc, 0, none⟩), .pointer (some ⟨zw, 0, none⟩)]) ∧ sat W (cel zw 3 [.int .i64 wd] :: cel zc 22 [.slice a n c] :: H) w' := by
  go_enter Try.func27, Try.ntmps27
  go_wp2_with (first | ((with_reducible refine isl ?_); first | ((with_reducible apply ld hs.b0); exact rfl; exact rfl; exact rfl; exact rfl; kernel_rfl) | ((with_reducible apply st hs.b0); exact rfl; exact rfl; exact rfl; exact rfl; exact rfl; exact rfl; kernel_rfl; exact rfl; clear hs; intro w hs) | ((with_reducible apply stc hs.b0); exact rfl; exact rfl; exact rfl; exact rfl; exact rfl; kernel_rfl; exact rfl; clear hs; intro w hs) | ((with_reducible refine wrap hs ?_); clear hs; (first | (have _t := z1; clear _t; generalize w.heap.size = z2) | generalize w.heap.size = z1); intro w hs) | ((with_reducible refine wrap hs ?_); clear hs; intro w hs) | ((with_reducible refine wrapn hs ?_); clear hs; intro w hs) | ((with_reducible refine wrapd hs ?_); clear hs; intro w hs)))
  go_ret
  exact ⟨_, _, rfl, by first | exact hs | exact hs.made⟩
theorem may25 (x : Int) : ∀ w, Calls Try.prog 25 #[.int .i64 x] w fun e w' => e = .returned (.bool (decide (1 ≤ x ∧ x ≤ 80))) ∧ w' = w := fun w => by
  by_cases h1 : 1 ≤ x
  · by_cases h2 : x ≤ 80
    · go_enter Try.func25, Try.ntmps25
      go_wp2
      go_ret
      exact ⟨by simp [h1, h2], rfl⟩
    · have h3 : 80 < x := by omega
      go_enter Try.func25, Try.ntmps25
      go_wp2
      go_ret
      exact ⟨by simp [h2], rfl⟩
  · have h3 : x < 1 := by omega
    go_enter Try.func25, Try.ntmps25
    go_wp2
    go_ret
    exact ⟨by simp; omega, rfl⟩
set_option maxHeartbeats 1000000 in
theorem append32 {lb : Array Value} {Hs : List HProp} {xs : List Nat} (hit : IterS Try.prog 33 lb (fun b : Nat => #[.int .i64 b]) Hs xs) (hlen : xs.length ≤ 1000000) (hs : sat W (Hs ++ H) w) :
    Calls Try.prog 32 #[.slice none 0 0, .func (.func 33) #[] lb] w fun e w' => ∃ a c, e = .returned (.slice a xs.length c) ∧ sat W (own 3 1 (.slice a xs.length c) xs.length (natsV xs) :: (Hs ++ H)) w' := by
  refine (callsIn_wide (n := 0)).1 (callsIn_of_wp_marks Try.func32 rfl trivial (wpIn_wide.2 ?_) rfl)
  simp only [Try.ntmps32, List.size_toArray, List.length_cons, List.length_nil, Nat.reduceAdd, Nat.reduceSub, Array.replicate_succ, Array.replicate_zero, List.push_toArray, List.append_toArray, List.nil_append, List.cons_append]
  go_wp2_with (first | ((with_reducible refine isl ?_); first | ((with_reducible apply ld hs.b0); exact rfl; exact rfl; exact rfl; exact rfl; kernel_rfl) | ((with_reducible apply st hs.b0); exact rfl; exact rfl; exact rfl; exact rfl; exact rfl; exact rfl; kernel_rfl; exact rfl; clear hs; intro w hs) | ((with_reducible apply stc hs.b0); exact rfl; exact rfl; exact rfl; exact rfl; exact rfl; kernel_rfl; exact rfl; clear hs; intro w hs) | ((with_reducible refine wrap hs ?_); clear hs; (first | generalize w.heap.size = z1); intro w hs) | ((with_reducible refine wrap hs ?_); clear hs; intro w hs) | ((with_reducible refine wrapn hs ?_); clear hs; intro w hs) | ((with_reducible refine wrapd hs ?_); clear hs; intro w hs)))
  have hs1 : sat W (cel w.heap.size 25 [.slice none 0 0] :: (Hs ++ H)) (w.alloc (.cells #[.slice none 0 0] 25)) := hs.made
  clear hs
  revert hs1
  generalize w.heap.size = z1
  generalize w.alloc _ = w2
  intro hs
  refine wp_range (W := W) (H := Hs ++ H) (encs := fun b : Nat => #[.int .i64 b]) rfl (enters_of Try.func33 (by kernel_rfl) rfl) hit (fun _ => rfl)
    (fun pre (y : Option Addr × Nat) => [own 3 1 (.slice y.1 pre.length y.2) pre.length (natsV pre), cel z1 25 [.slice y.1 pre.length y.2]])
    (fun _ _ => True) (fun _ _ (_ : Unit) => []) (fun _ _ _ => False)
    (fun _ x (_ : Unit) => ⟨#[.slice none 0 0, .func (.func 33) #[] lb, .pointer (some ⟨z1, 0, none⟩), undef, .slice none 0 0, .int .i64 x, .func (.func 33) #[] lb, .int .i64 x, undef, undef, undef, undef, undef], []⟩)
    (fun _ _ _ => [])
    (fun _ _ _ h => holds_append_left (holds_sublist (.cons _ (.cons _ (List.Sublist.refl _))) h)) (none, 0) trivial ?start ?assign ?body ?done ?stop
  case start =>
    have hs := hs.own_nil 3 1
    simp only [List.cons_append, List.nil_append]
    exact (by (refine sat_from ?_ hs; repeat (first | exact Sub.refl _ | exact Sub.nil _ | refine Sub.c0 ?_ | refine Sub.c1 ?_ | refine Sub.c2 ?_ | refine Sub.c3 ?_ | refine Sub.c4 ?_ | refine Sub.c5 ?_ | refine Sub.c6 ?_ | refine Sub.c7 ?_ | refine Sub.c8 ?_ | refine Sub.c9 ?_ | refine Sub.skip ?_)))
  case assign =>
    rintro l G pre x ⟨y1, y2⟩ w1 K _ hpx hs hK
    refine region_in (fun ⟨_, _, h⟩ => h) rfl ?_
    have hK := hK () w1 hs
    clear hs
    go_wp2
    all_goals exact hK
  case body =>
    rintro l G pre x ⟨y1, y2⟩ d w2 _ hpx hs
    simp only [List.cons_append, List.nil_append] at hs
    have hlen2 : pre.length < 1000000 := by
      have h2 := hpx.length_le
      simp at h2
      omega
    refine wpIn_block (region_in (fun ⟨_, _, h⟩ => h) rfl ?_)
    go_wp2_with (first | ((with_reducible refine isl ?_); first | ((with_reducible apply ld hs.b0); exact rfl; exact rfl; exact rfl; exact rfl; kernel_rfl) | ((with_reducible apply ld hs.b1); exact rfl; exact rfl; exact rfl; exact rfl; kernel_rfl) | ((with_reducible apply ld hs.b2); exact rfl; exact rfl; exact rfl; exact rfl; kernel_rfl) | ((with_reducible apply st hs.b0); exact rfl; exact rfl; exact rfl; exact rfl; exact rfl; exact rfl; kernel_rfl; exact rfl; clear hs; intro w hs) | ((with_reducible apply st hs.b1); exact rfl; exact rfl; exact rfl; exact rfl; exact rfl; exact rfl; kernel_rfl; exact rfl; clear hs; intro w hs) | ((with_reducible apply st hs.b2); exact rfl; exact rfl; exact rfl; exact rfl; exact rfl; exact rfl; kernel_rfl; exact rfl; clear hs; intro w hs) | ((with_reducible apply stc hs.b0); exact rfl; exact rfl; exact rfl; exact rfl; exact rfl; kernel_rfl; exact rfl; clear hs; intro w hs) | ((with_reducible apply stc hs.b1); exact rfl; exact rfl; exact rfl; exact rfl; exact rfl; kernel_rfl; exact rfl; clear hs; intro w hs) | ((with_reducible apply stc hs.b2); exact rfl; exact rfl; exact rfl; exact rfl; exact rfl; kernel_rfl; exact rfl; clear hs; intro w hs) | ((with_reducible apply app hs.b1); exact rfl; exact rfl; exact rfl; exact rfl; exact slty25; exact rfl; exact rfl; decide; omega; unfold maxLen; omega; clear hs; intro g5 c5 w hs) | ((with_reducible refine wrap hs ?_); clear hs; intro w hs) | ((with_reducible refine wrapn hs ?_); clear hs; intro w hs) | ((with_reducible refine wrapd hs ?_); clear hs; intro w hs)))
    refine ⟨(some ⟨g5, 0, none⟩, c5), trivial, ?_⟩
    simp only [List.cons_append, List.nil_append, List.length_append, List.length_singleton, List.map_append, List.map_cons, List.map_nil]
    exact (by (refine sat_from ?_ hs; repeat (first | exact Sub.refl _ | exact Sub.nil _ | refine Sub.c0 ?_ | refine Sub.c1 ?_ | refine Sub.c2 ?_ | refine Sub.c3 ?_ | refine Sub.c4 ?_ | refine Sub.c5 ?_ | refine Sub.c6 ?_ | refine Sub.c7 ?_ | refine Sub.c8 ?_ | refine Sub.c9 ?_ | refine Sub.skip ?_)))
  case done =>
    rintro D ⟨y1, y2⟩ w' _ hs
    simp only [List.cons_append, List.nil_append] at hs
    go_wp2_with (first | ((with_reducible refine isl ?_); first | ((with_reducible apply ld hs.b0); exact rfl; exact rfl; exact rfl; exact rfl; kernel_rfl) | ((with_reducible apply ld hs.b1); exact rfl; exact rfl; exact rfl; exact rfl; kernel_rfl) | ((with_reducible apply ld hs.b2); exact rfl; exact rfl; exact rfl; exact rfl; kernel_rfl) | ((with_reducible apply st hs.b0); exact rfl; exact rfl; exact rfl; exact rfl; exact rfl; exact rfl; kernel_rfl; exact rfl; clear hs; intro w hs) | ((with_reducible apply st hs.b1); exact rfl; exact rfl; exact rfl; exact rfl; exact rfl; exact rfl; kernel_rfl; exact rfl; clear hs; intro w hs) | ((with_reducible apply st hs.b2); exact rfl; exact rfl; exact rfl; exact rfl; exact rfl; exact rfl; kernel_rfl; exact rfl; clear hs; intro w hs) | ((with_reducible apply stc hs.b0); exact rfl; exact rfl; exact rfl; exact rfl; exact rfl; kernel_rfl; exact rfl; clear hs; intro w hs) | ((with_reducible apply stc hs.b1); exact rfl; exact rfl; exact rfl; exact rfl; exact rfl; kernel_rfl; exact rfl; clear hs; intro w hs) | ((with_reducible apply stc hs.b2); exact rfl; exact rfl; exact rfl; exact rfl; exact rfl; kernel_rfl; exact rfl; clear hs; intro w hs) | ((with_reducible refine wrap hs ?_); clear hs; intro w hs) | ((with_reducible refine wrapn hs ?_); clear hs; intro w hs) | ((with_reducible refine wrapd hs ?_); clear hs; intro w hs)))
    refine ⟨by simp, .inl ⟨_, _, rfl, run_takeDeferred (hs.b2.heap), ?_⟩⟩
    refine ⟨_, results_tmp rfl _ _ _, _, _, rfl, ?_⟩
    have hs := hs.b2.putObj (.deferred none)
    exact (by (refine sat_from ?_ hs; repeat (first | exact Sub.refl _ | exact Sub.nil _ | refine Sub.c0 ?_ | refine Sub.c1 ?_ | refine Sub.c2 ?_ | refine Sub.c3 ?_ | refine Sub.c4 ?_ | refine Sub.c5 ?_ | refine Sub.c6 ?_ | refine Sub.c7 ?_ | refine Sub.c8 ?_ | refine Sub.c9 ?_ | refine Sub.skip ?_)))
  case stop => exact fun _ _ _ _ _ _ h => h.elim
theorem collect26 {lb : Array Value} {Hs : List HProp} {xs : List Nat} (hit : IterS Try.prog 33 lb (fun b : Nat => #[.int .i64 b]) Hs xs) (hlen : xs.length ≤ 1000000) (hs : sat W (Hs ++ H) w) :
    Calls Try.prog 26 #[.func (.func 33) #[] lb] w fun e w' => ∃ a c, e = .returned (.slice a xs.length c) ∧ sat W (own 3 1 (.slice a xs.length c) xs.length (natsV xs) :: (Hs ++ H)) w' := by
  have HI := Lib.hid hit
  clear hit
  go_enter Try.func26, Try.ntmps26
  go_wp2_with (first | (go_at_call 32; refine (append32 HI.out hlen hs).mono ?_; clear hs; rintro e w ⟨a5, c5, rfl, hs⟩) | ((with_reducible refine isl ?_); first | ((with_reducible refine wrap hs ?_); clear hs; intro w hs) | ((with_reducible refine wrapn hs ?_); clear hs; intro w hs) | ((with_reducible refine wrapd hs ?_); clear hs; intro w hs)))
  go_ret
  exact ⟨_, _, rfl, hs⟩
theorem begs_le {cells : List Int} {wd : Nat} {hw : 0 < wd} (h : cells.length ≤ 1000) : (Pan.begs cells wd hw 0).length ≤ 1000000 := by
  have := Pan.begs_len (cells := cells) (hw := hw) cells.length 0 (by omega)
  omega
theorem begins9 {cells : List Int} {wd : Nat} (hw : 0 < wd) (hw2 : wd ≤ 80) {Hc : List HProp} {a : Option Addr} {n c : Nat} (hr : RdC Hc a n c cells) (hl : cells.length ≤ 1000) (hs : sat W (Hc ++ H) w) :
    Calls Try.prog 9 #[.slice a n c, .int .i64 wd] w fun e w' => ∃ a' c', e = .returned (.slice a' (Pan.begs cells wd hw 0).length c') ∧ sat W (own 3 1 (.slice a' (Pan.begs cells wd hw 0).length c') (Pan.begs cells wd hw 0).length (natsV (Pan.begs cells wd hw 0)) :: (Hc ++ H)) w' := by
  have hit := fun zc zw => all33 (zc := zc) (zw := zw) hw (by omega) hr
  have HI := Lib.hid hit
  have HR := Lib.hid hr
  have hlen := begs_le (wd := wd) (hw := hw) hl
  clear hit hr
  have hd : decide (1 ≤ (wd : Int) ∧ (wd : Int) ≤ 80) = true := by simp; omega
  generalize hx : Pan.begs cells wd hw 0 = xs at HI hlen
  go_enter Try.func9, Try.ntmps9
  go_wp2_with (first | (go_at_call 25; refine (may25 _ _).mono ?_; rintro e w ⟨rfl, rfl⟩; rw [hd]) | (go_at_call 27; refine (all27 hs).mono ?_; clear hs; rintro e w ⟨zc, zw, rfl, hs⟩) | (go_at_call 26; refine (collect26 (HI.out zc zw) hlen hs).mono ?_; clear hs; rintro e w ⟨a5, c5, rfl, hs⟩) | ((with_reducible refine isl ?_); first | ((with_reducible refine wrap hs ?_); clear hs; intro w hs) | ((with_reducible refine wrapn hs ?_); clear hs; intro w hs) | ((with_reducible refine wrapd hs ?_); clear hs; intro w hs)))
  go_ret
  exact ⟨_, _, rfl, by (refine sat_from ?_ hs; repeat (first | exact Sub.refl _ | exact Sub.nil _ | refine Sub.c0 ?_ | refine Sub.c1 ?_ | refine Sub.c2 ?_ | refine Sub.c3 ?_ | refine Sub.c4 ?_ | refine Sub.c5 ?_ | refine Sub.c6 ?_ | refine Sub.c7 ?_ | refine Sub.c8 ?_ | refine Sub.c9 ?_ | refine Sub.skip ?_))⟩
theorem begins_no {wd : Int} {v : Value} (hw : wd < 1 ∨ 80 < wd) (hs : sat W H w) : Calls Try.prog 9 #[v, .int .i64 wd] w fun e w' => e = .returned (.slice none 0 0) ∧ sat W H w' := by
  have hd : decide (1 ≤ wd ∧ wd ≤ 80) = false := by simp; omega
  go_enter Try.func9, Try.ntmps9
  go_wp2_with (first | (go_at_call 25; refine (may25 _ _).mono ?_; rintro e w ⟨rfl, rfl⟩; rw [hd]) | ((with_reducible refine isl ?_); first | ((with_reducible refine wrap hs ?_); clear hs; intro w hs) | ((with_reducible refine wrapn hs ?_); clear hs; intro w hs) | ((with_reducible refine wrapd hs ?_); clear hs; intro w hs)))
  go_ret
  exact ⟨rfl, hs⟩
end Go.Proofs.Ytdbhgjkdblhhkaa
