/- Law 20: which word a column is of; where the last one ahead begins. -/
import Derived.Test.YtcheljogpffabaaSf
import Derived.Test.YtcheljogpffabaaW8
namespace Go.Proofs.Ytcheljogpffabaa
open Go.RowKit Go.Mem Go.Words
variable {W w : World} {H : List HProp}
theorem results_two {P : Program} {fn : Func} {tmps : Array Value} {b b2 : Nat} {T T2 ty ty2 : TypeId} {l : List Value} {v : Value} {t t2 : Tmp} (hs : sat W (cel b2 T2 [v] :: cel b T l :: H) w)
    (hr : fn.results = #[.cell t ty, .cell t2 ty2]) (hx : tmps.getD t undef = .pointer (some ⟨b, 0, none⟩)) (hx2 : tmps.getD t2 undef = .pointer (some ⟨b2, 0, none⟩)) (ht : rowTy P ty l.length = true) (ht2 : oneTy P ty2 = true) : (results fn tmps).run P w = .ok (.tuple #[.agg l.toArray, v]) w := by
  have hx' : tmps[t]?.getD undef = .pointer (some ⟨b, 0, none⟩) := by rw [← Array.getD_eq_getD_getElem?]; exact hx
  have hx2' : tmps[t2]?.getD undef = .pointer (some ⟨b2, 0, none⟩) := by rw [← Array.getD_eq_getD_getElem?]; exact hx2
  obtain ⟨d, h1, h2, h3⟩ := rowTy_parts ht
  have hl := run_loadVar_mid (P := P) w b 0 ty l d (hs.drop.cel_range (i := 0) (n := l.length) (by simp)) h1 h2 h3
  have hl2 := run_loadAt_one (P := P) ht2 (hs.cel_cell (i := 0) rfl)
  simp only [Instr.loadAt, Instr.sureAddr, Sem.run_bind, Sem.run_pure, Result.andThen_ok] at hl2
  unfold results
  simp [hr, hx', hx2', hl, hl2, asAddr]
theorem prev_snoc (pr : List (Nat × Nat)) (x : Nat × Nat) (col : Int) : prevW (pr ++ [x]) col = if (x.1 : Int) < col then (x.1 : Int) else prevW pr col := by
  unfold prevW; rw [List.foldl_append]; rfl
attribute [local irreducible] World.setCell World.setCells World.alloc World.drew World.drewN Calls sat cel own blk old wpQuiet wpList tx
section
variable {q : Option Addr} {Hc : List HProp} {ws : List (Nat × Nat)}
set_option maxHeartbeats 1000000 in
theorem prev16 (hit : Ws q Hc ws) (col : Int) (hs : sat W (Hc ++ H) w) :
    Calls Try.prog 55 #[.pointer q, .int .i64 col] w fun e w' => e = .returned (.int .i64 (prevW ws col)) ∧ sat W (Hc ++ H) w' := by
  have HI := Lib.hid hit
  clear hit
  refine (callsIn_wide (n := 0)).1 (callsIn_of_wp_marks Try.func55 rfl trivial (wpIn_wide.2 ?_) rfl)
  simp only [Try.ntmps55, List.size_toArray, List.length_cons, List.length_nil, Nat.reduceAdd, Nat.reduceSub, Array.replicate_succ, Array.replicate_zero, List.push_toArray, List.append_toArray, List.nil_append, List.cons_append]
  go_wp2_with (first | (go_at_call 68; refine (all36 hs).mono ?_; clear hs; rintro e w ⟨z, rfl, hs⟩) | ((with_reducible refine isl ?_); first | ((with_reducible apply ldx); exact rfl; exact rfl; exact rfl; (first | exact hs.b0 | exact hs.b1 | exact hs.b2); exact rfl; kernel_rfl) | ((with_reducible apply stx); exact rfl; exact rfl; exact rfl; (first | exact hs.b0 | exact hs.b1 | exact hs.b2); exact rfl; exact rfl; exact rfl; kernel_rfl; exact rfl; clear hs; intro w hs) | ((with_reducible apply stcx); exact rfl; exact rfl; exact rfl; (first | exact hs.b0 | exact hs.b1 | exact hs.b2); exact rfl; exact rfl; kernel_rfl; exact rfl; clear hs; intro w hs) | ((with_reducible refine wrap hs ?_); clear hs; (first | (have _t := z1; clear _t; generalize w.heap.size = z2) | generalize w.heap.size = z1); intro w hs) | ((with_reducible refine wrap hs ?_); clear hs; intro w hs) | ((with_reducible refine wrapn hs ?_); clear hs; intro w hs) | ((with_reducible refine wrapd hs ?_); clear hs; intro w hs)))
  refine wp_range (W := W) (H := Hc ++ H) (encs := (fun p : Nat × Nat => #[exV p])) rfl (enters_of Try.func73 (by kernel_rfl) rfl) (HI.out z) (fun _ => rfl)
    (fun pre (_ : Unit) => [cel z2 3 [.int .i64 (prevW pre col)], cel z1 3 [.int .i64 col], cel z 100 [.pointer q]])
    (fun _ _ => True) (fun _ _ (_ : Unit) => []) (fun _ _ _ => False)
    (fun _ x (d : Nat) => ⟨#[.pointer q, .int .i64 col, undef, .pointer (some ⟨z1, 0, none⟩), .int .i64 0, .pointer (some ⟨z2, 0, none⟩), .pointer (some ⟨d, 0, none⟩), .pointer q, .func (.func 73) #[] #[.pointer (some ⟨z, 0, none⟩)], exV x, undef, undef, undef, undef, undef, undef, undef], []⟩)
    (fun _ x d => [cel d 87 (exC x)])
    (fun _ _ _ h => holds_append_left (H := _ :: Hc) (G := H) (holds_sublist (.cons _ (.cons _ (.cons_cons _ (List.Sublist.refl _)))) h)) () trivial ?start ?assign ?body ?done ?stop
  case start =>
    simp only [List.cons_append, List.nil_append] at hs ⊢
    exact (by (refine sb_from ?_ hs; repeat constructor))
  case assign =>
    rintro l G pre x y w1 K _ hpx hs hK
    refine region_in (fun ⟨_, _, h⟩ => h) rfl ?_
    simp only [List.cons_append, List.nil_append] at hs
    go_wp2_with (first | ((with_reducible refine isl ?_); first | ((with_reducible refine wrap hs ?_); clear hs; generalize w1.heap.size = zd; intro w hs) | ((with_reducible apply stsw hs); exact rfl; exact rfl; exact rfl; exact rfl; exact row41; exact rfl; exact rfl; exact rfl; clear hs; intro w hs) | ((with_reducible refine wrap hs ?_); clear hs; intro w hs) | ((with_reducible refine wrapn hs ?_); clear hs; intro w hs) | ((with_reducible refine wrapd hs ?_); clear hs; intro w hs)))
    all_goals (first | exact hK zd w hs | exact hs)
  case body =>
    rintro l G pre x y d w2 hall hpx hs
    simp only [List.cons_append, List.nil_append] at hs
    refine wpIn_block (wpIn_seq (region_in (fun ⟨_, _, h⟩ => h) rfl ?_))
    have HV := Lib.hid (prev_snoc pre x col)
    by_cases hx : (x.1 : Int) < col
    · rw [if_pos hx] at HV
      go_wp2_with (first | ((with_reducible refine isl ?_); first | ((with_reducible apply ldx); exact rfl; exact rfl; exact rfl; (first | exact hs.b0 | exact hs.b1 | exact hs.b2 | exact hs.b3 | exact hs.b4 | exact hs.b5); exact rfl; kernel_rfl) | ((with_reducible apply stx); exact rfl; exact rfl; exact rfl; (first | exact hs.b0 | exact hs.b1 | exact hs.b2 | exact hs.b3 | exact hs.b4 | exact hs.b5); exact rfl; exact rfl; exact rfl; kernel_rfl; exact rfl; clear hs; intro w hs) | ((with_reducible apply stcx); exact rfl; exact rfl; exact rfl; (first | exact hs.b0 | exact hs.b1 | exact hs.b2 | exact hs.b3 | exact hs.b4 | exact hs.b5); exact rfl; exact rfl; kernel_rfl; exact rfl; clear hs; intro w hs) | ((with_reducible refine wrap hs ?_); clear hs; intro w hs) | ((with_reducible refine wrapn hs ?_); clear hs; intro w hs) | ((with_reducible refine wrapd hs ?_); clear hs; intro w hs)))
      refine wpIn_cond_true rfl (region_in (fun ⟨_, _, h⟩ => h) rfl ?_)
      go_wp2_with (first | ((with_reducible refine isl ?_); first | ((with_reducible apply ldx); exact rfl; exact rfl; exact rfl; (first | exact hs.b0 | exact hs.b1 | exact hs.b2 | exact hs.b3 | exact hs.b4 | exact hs.b5); exact rfl; kernel_rfl) | ((with_reducible apply stx); exact rfl; exact rfl; exact rfl; (first | exact hs.b0 | exact hs.b1 | exact hs.b2 | exact hs.b3 | exact hs.b4 | exact hs.b5); exact rfl; exact rfl; exact rfl; kernel_rfl; exact rfl; clear hs; intro w hs) | ((with_reducible apply stcx); exact rfl; exact rfl; exact rfl; (first | exact hs.b0 | exact hs.b1 | exact hs.b2 | exact hs.b3 | exact hs.b4 | exact hs.b5); exact rfl; exact rfl; kernel_rfl; exact rfl; clear hs; intro w hs) | ((with_reducible refine wrap hs ?_); clear hs; intro w hs) | ((with_reducible refine wrapn hs ?_); clear hs; intro w hs) | ((with_reducible refine wrapd hs ?_); clear hs; intro w hs)))
      refine ⟨(), trivial, ?_⟩
      simp only [List.cons_append, List.nil_append, HV.out]
      exact (by (refine sb_from ?_ hs; repeat constructor))
    · rw [if_neg hx] at HV
      go_wp2_with (first | ((with_reducible refine isl ?_); first | ((with_reducible apply ldx); exact rfl; exact rfl; exact rfl; (first | exact hs.b0 | exact hs.b1 | exact hs.b2 | exact hs.b3 | exact hs.b4 | exact hs.b5); exact rfl; kernel_rfl) | ((with_reducible apply stx); exact rfl; exact rfl; exact rfl; (first | exact hs.b0 | exact hs.b1 | exact hs.b2 | exact hs.b3 | exact hs.b4 | exact hs.b5); exact rfl; exact rfl; exact rfl; kernel_rfl; exact rfl; clear hs; intro w hs) | ((with_reducible apply stcx); exact rfl; exact rfl; exact rfl; (first | exact hs.b0 | exact hs.b1 | exact hs.b2 | exact hs.b3 | exact hs.b4 | exact hs.b5); exact rfl; exact rfl; kernel_rfl; exact rfl; clear hs; intro w hs) | ((with_reducible refine wrap hs ?_); clear hs; intro w hs) | ((with_reducible refine wrapn hs ?_); clear hs; intro w hs) | ((with_reducible refine wrapd hs ?_); clear hs; intro w hs)))
      refine wpIn_cond_false rfl (wpIn_skip ?_)
      refine ⟨(), trivial, ?_⟩
      simp only [List.cons_append, List.nil_append, HV.out]
      exact (by (refine sb_from ?_ hs; repeat constructor))
  case done =>
    rintro D y w' hall hs
    simp only [List.cons_append, List.nil_append] at hs
    go_wp2_with (first | ((with_reducible refine isl ?_); first | ((with_reducible apply ldx); exact rfl; exact rfl; exact rfl; (first | exact hs.b0 | exact hs.b1 | exact hs.b2 | exact hs.b3); exact rfl; kernel_rfl) | ((with_reducible apply stx); exact rfl; exact rfl; exact rfl; (first | exact hs.b0 | exact hs.b1 | exact hs.b2 | exact hs.b3); exact rfl; exact rfl; exact rfl; kernel_rfl; exact rfl; clear hs; intro w hs) | ((with_reducible apply stcx); exact rfl; exact rfl; exact rfl; (first | exact hs.b0 | exact hs.b1 | exact hs.b2 | exact hs.b3); exact rfl; exact rfl; kernel_rfl; exact rfl; clear hs; intro w hs) | ((with_reducible refine wrap hs ?_); clear hs; intro w hs) | ((with_reducible refine wrapn hs ?_); clear hs; intro w hs) | ((with_reducible refine wrapd hs ?_); clear hs; intro w hs)))
    have hD := hs.b3.heap
    have hs := (hs.b3.putObj (.deferred none)).drop
    refine ⟨by simp, .inl ⟨_, _, rfl, run_takeDeferred hD, ?_⟩⟩
    exact ⟨_, results_tmp rfl _ _ _, rfl, by (refine sb_from ?_ hs; repeat constructor)⟩
  case stop => exact fun _ _ _ _ _ _ h => h.elim
def wP (col : Int) (x : Nat × Nat) : Bool := decide ((x.1 : Int) ≤ col) && decide (col < (x.2 : Int))
/-- What Word answers. -/
def wordV : Option (Nat × Nat) → Value
  | some x => .tuple #[exV x, .bool true]
  | none => .tuple #[exV (0, 0), .bool false]
theorem word_at {col : Int} {pr : List (Nat × Nat)} {x : Nat × Nat} {r : List (Nat × Nat)} (ha : Non (wP col) pr) (h : wP col x = true) : wordW (pr ++ x :: r) col = some x := by
  unfold wordW; exact find_at pr x r ha h
theorem word_no {col : Int} {pr : List (Nat × Nat)} (ha : Non (wP col) pr) : wordW pr col = none := find_no ha
set_option maxHeartbeats 1000000 in
theorem word17 (hit : Ws q Hc ws) (col : Int) (hs : sat W (Hc ++ H) w) :
    Calls Try.prog 59 #[.pointer q, .int .i64 col] w fun e w' => e = .returned (wordV (wordW ws col)) ∧ sat W (Hc ++ H) w' := by
  have HI := Lib.hid hit
  clear hit
  refine (callsIn_wide (n := 0)).1 (callsIn_of_wp_marks Try.func59 rfl trivial (wpIn_wide.2 ?_) rfl)
  simp only [Try.ntmps59, List.size_toArray, List.length_cons, List.length_nil, Nat.reduceAdd, Nat.reduceSub, Array.replicate_succ, Array.replicate_zero, List.push_toArray, List.append_toArray, List.nil_append, List.cons_append]
  go_wp2_with (first | (go_at_call 68; refine (all36 hs).mono ?_; clear hs; rintro e w ⟨z, rfl, hs⟩) | ((with_reducible refine isl ?_); first | ((with_reducible apply ldx); exact rfl; exact rfl; exact rfl; (first | exact hs.b0 | exact hs.b1 | exact hs.b2); exact rfl; kernel_rfl) | ((with_reducible apply stx); exact rfl; exact rfl; exact rfl; (first | exact hs.b0 | exact hs.b1 | exact hs.b2); exact rfl; exact rfl; exact rfl; kernel_rfl; exact rfl; clear hs; intro w hs) | ((with_reducible apply stcx); exact rfl; exact rfl; exact rfl; (first | exact hs.b0 | exact hs.b1 | exact hs.b2); exact rfl; exact rfl; kernel_rfl; exact rfl; clear hs; intro w hs) | ((with_reducible refine wrap hs ?_); clear hs; (first | (have _t := z2; clear _t; generalize w.heap.size = z3) | (have _t := z1; clear _t; generalize w.heap.size = z2) | generalize w.heap.size = z1); intro w hs) | ((with_reducible refine wrap hs ?_); clear hs; intro w hs) | ((with_reducible refine wrapn hs ?_); clear hs; intro w hs) | ((with_reducible refine wrapd hs ?_); clear hs; intro w hs)))
  refine wp_range (W := W) (H := Hc ++ H) (encs := (fun p : Nat × Nat => #[exV p])) rfl (enters_of Try.func73 (by kernel_rfl) rfl) (HI.out z) (fun _ => rfl)
    (fun _ (_ : Unit) => [cel z3 4 [.bool false], cel z2 87 [.int .i64 0, .int .i64 0], cel z1 3 [.int .i64 col], cel z 100 [.pointer q]])
    (fun pre _ => Non (wP col) pre)
    (fun _ _ (x : Nat × Nat) => [cel z3 4 [.bool true], cel z2 87 (exC x), cel z1 3 [.int .i64 col], cel z 100 [.pointer q]])
    (fun cd L x => cd = .ret ∧ ∃ p, L = p ++ [x] ∧ Non (wP col) p ∧ wP col x = true)
    (fun _ x (d : Nat) => ⟨#[.pointer q, .int .i64 col, undef, .pointer (some ⟨z1, 0, none⟩), .pointer (some ⟨z2, 0, none⟩), .pointer (some ⟨z3, 0, none⟩), .pointer (some ⟨d, 0, none⟩), .pointer q, .func (.func 73) #[] #[.pointer (some ⟨z, 0, none⟩)], exV x, undef, undef, undef, undef, undef, undef, undef, undef, undef, undef, undef, undef], []⟩)
    (fun _ x d => [cel d 87 (exC x)])
    (fun _ _ _ h => holds_append_left (H := _ :: Hc) (G := H) (holds_sublist (.cons _ (.cons _ (.cons _ (.cons_cons _ (List.Sublist.refl _))))) h)) () (non_nil _) ?start ?assign ?body ?done ?stop
  case start =>
    simp only [List.cons_append, List.nil_append] at hs ⊢
    exact (by (refine sb_from ?_ hs; repeat constructor))
  case assign =>
    rintro l G pre x y w1 K _ hpx hs hK
    refine region_in (fun ⟨_, _, h⟩ => h) rfl ?_
    simp only [List.cons_append, List.nil_append] at hs
    go_wp2_with (first | ((with_reducible refine isl ?_); first | ((with_reducible refine wrap hs ?_); clear hs; generalize w1.heap.size = zd; intro w hs) | ((with_reducible apply stsw hs); exact rfl; exact rfl; exact rfl; exact rfl; exact row41; exact rfl; exact rfl; exact rfl; clear hs; intro w hs) | ((with_reducible refine wrap hs ?_); clear hs; intro w hs) | ((with_reducible refine wrapn hs ?_); clear hs; intro w hs) | ((with_reducible refine wrapd hs ?_); clear hs; intro w hs)))
    all_goals (first | exact hK zd w hs | exact hs)
  case body =>
    rintro l G pre x y d w2 hall hpx hs
    simp only [List.cons_append, List.nil_append] at hs
    refine wpIn_block (wpIn_seq (region_in (fun ⟨_, _, h⟩ => h) rfl ?_))
    by_cases hx : (x.1 : Int) ≤ col
    · by_cases hx2 : col < (x.2 : Int)
      · have HW : Hid (wP col x = true) := Lib.hid (by simp [wP, hx, hx2])
        go_wp2_with (first | ((with_reducible refine isl ?_); first | ((with_reducible apply ldx); exact rfl; exact rfl; exact rfl; (first | exact hs.b0 | exact hs.b1 | exact hs.b2 | exact hs.b3 | exact hs.b4 | exact hs.b5); exact rfl; kernel_rfl) | ((with_reducible apply stx); exact rfl; exact rfl; exact rfl; (first | exact hs.b0 | exact hs.b1 | exact hs.b2 | exact hs.b3 | exact hs.b4 | exact hs.b5); exact rfl; exact rfl; exact rfl; kernel_rfl; exact rfl; clear hs; intro w hs) | ((with_reducible apply stcx); exact rfl; exact rfl; exact rfl; (first | exact hs.b0 | exact hs.b1 | exact hs.b2 | exact hs.b3 | exact hs.b4 | exact hs.b5); exact rfl; exact rfl; kernel_rfl; exact rfl; clear hs; intro w hs) | ((with_reducible refine wrap hs ?_); clear hs; intro w hs) | ((with_reducible refine wrapn hs ?_); clear hs; intro w hs) | ((with_reducible refine wrapd hs ?_); clear hs; intro w hs)))
        refine wpIn_cond_true rfl (wpIn_seq (region_in (fun ⟨_, _, h⟩ => h) rfl ?_))
        go_wp2_with (first | ((with_reducible refine isl ?_); first | ((with_reducible apply ldswx); exact rfl; exact rfl; exact rfl; exact hs.b0; exact row41) | ((with_reducible apply stswx); exact rfl; exact rfl; exact rfl; exact hs.b2; exact rfl; exact row41; exact rfl; exact rfl; exact rfl; clear hs; intro w hs) | ((with_reducible apply ldx); exact rfl; exact rfl; exact rfl; (first | exact hs.b0 | exact hs.b1 | exact hs.b2 | exact hs.b3 | exact hs.b4 | exact hs.b5); exact rfl; kernel_rfl) | ((with_reducible apply stx); exact rfl; exact rfl; exact rfl; (first | exact hs.b0 | exact hs.b1 | exact hs.b2 | exact hs.b3 | exact hs.b4 | exact hs.b5); exact rfl; exact rfl; exact rfl; kernel_rfl; exact rfl; clear hs; intro w hs) | ((with_reducible apply stcx); exact rfl; exact rfl; exact rfl; (first | exact hs.b0 | exact hs.b1 | exact hs.b2 | exact hs.b3 | exact hs.b4 | exact hs.b5); exact rfl; exact rfl; kernel_rfl; exact rfl; clear hs; intro w hs) | ((with_reducible refine wrap hs ?_); clear hs; intro w hs) | ((with_reducible refine wrapn hs ?_); clear hs; intro w hs) | ((with_reducible refine wrapd hs ?_); clear hs; intro w hs)))
        refine wpIn_ret ?_
        exact ⟨x, ⟨rfl, pre, rfl, hall, HW.out⟩, by
          simp only [List.cons_append, List.nil_append]
          exact (by (refine sb_from ?_ hs; repeat constructor))⟩
      · have HW : Hid (wP col x = false) := Lib.hid (by simp [wP]; omega)
        go_wp2_with (first | ((with_reducible refine isl ?_); first | ((with_reducible apply ldx); exact rfl; exact rfl; exact rfl; (first | exact hs.b0 | exact hs.b1 | exact hs.b2 | exact hs.b3 | exact hs.b4 | exact hs.b5); exact rfl; kernel_rfl) | ((with_reducible apply stx); exact rfl; exact rfl; exact rfl; (first | exact hs.b0 | exact hs.b1 | exact hs.b2 | exact hs.b3 | exact hs.b4 | exact hs.b5); exact rfl; exact rfl; exact rfl; kernel_rfl; exact rfl; clear hs; intro w hs) | ((with_reducible apply stcx); exact rfl; exact rfl; exact rfl; (first | exact hs.b0 | exact hs.b1 | exact hs.b2 | exact hs.b3 | exact hs.b4 | exact hs.b5); exact rfl; exact rfl; kernel_rfl; exact rfl; clear hs; intro w hs) | ((with_reducible refine wrap hs ?_); clear hs; intro w hs) | ((with_reducible refine wrapn hs ?_); clear hs; intro w hs) | ((with_reducible refine wrapd hs ?_); clear hs; intro w hs)))
        refine wpIn_cond_false rfl (wpIn_skip ?_)
        refine ⟨(), hall.snoc HW.out, ?_⟩
        simp only [List.cons_append, List.nil_append]
        exact (by (refine sb_from ?_ hs; repeat constructor))
    · have HW : Hid (wP col x = false) := Lib.hid (by simp [wP]; omega)
      go_wp2_with (first | ((with_reducible refine isl ?_); first | ((with_reducible apply ldx); exact rfl; exact rfl; exact rfl; (first | exact hs.b0 | exact hs.b1 | exact hs.b2 | exact hs.b3 | exact hs.b4 | exact hs.b5); exact rfl; kernel_rfl) | ((with_reducible apply stx); exact rfl; exact rfl; exact rfl; (first | exact hs.b0 | exact hs.b1 | exact hs.b2 | exact hs.b3 | exact hs.b4 | exact hs.b5); exact rfl; exact rfl; exact rfl; kernel_rfl; exact rfl; clear hs; intro w hs) | ((with_reducible apply stcx); exact rfl; exact rfl; exact rfl; (first | exact hs.b0 | exact hs.b1 | exact hs.b2 | exact hs.b3 | exact hs.b4 | exact hs.b5); exact rfl; exact rfl; kernel_rfl; exact rfl; clear hs; intro w hs) | ((with_reducible refine wrap hs ?_); clear hs; intro w hs) | ((with_reducible refine wrapn hs ?_); clear hs; intro w hs) | ((with_reducible refine wrapd hs ?_); clear hs; intro w hs)))
      refine wpIn_cond_false rfl (wpIn_skip ?_)
      refine ⟨(), hall.snoc HW.out, ?_⟩
      simp only [List.cons_append, List.nil_append]
      exact (by (refine sb_from ?_ hs; repeat constructor))
  case done =>
    rintro D y w' hall hs
    simp only [List.cons_append, List.nil_append] at hs
    have HL := Lib.hid (word_no hall)
    clear hall
    go_wp2_with (first | ((with_reducible refine isl ?_); first | ((with_reducible apply stswx); exact rfl; exact rfl; exact rfl; exact hs.b1; exact rfl; exact row41; exact rfl; exact rfl; exact rfl; clear hs; intro w hs) | ((with_reducible apply ldx); exact rfl; exact rfl; exact rfl; (first | exact hs.b0 | exact hs.b1 | exact hs.b2 | exact hs.b3 | exact hs.b4 | exact hs.b5); exact rfl; kernel_rfl) | ((with_reducible apply stx); exact rfl; exact rfl; exact rfl; (first | exact hs.b0 | exact hs.b1 | exact hs.b2 | exact hs.b3 | exact hs.b4 | exact hs.b5); exact rfl; exact rfl; exact rfl; kernel_rfl; exact rfl; clear hs; intro w hs) | ((with_reducible apply stcx); exact rfl; exact rfl; exact rfl; (first | exact hs.b0 | exact hs.b1 | exact hs.b2 | exact hs.b3 | exact hs.b4 | exact hs.b5); exact rfl; exact rfl; kernel_rfl; exact rfl; clear hs; intro w hs) | ((with_reducible refine wrap hs ?_); clear hs; intro w hs) | ((with_reducible refine wrapn hs ?_); clear hs; intro w hs) | ((with_reducible refine wrapd hs ?_); clear hs; intro w hs)))
    replace hs : sat W (blk D (.deferred (some [])) :: cel z3 4 [.bool false] :: cel z2 87 [.int .i64 0, .int .i64 0] :: (Hc ++ H)) w := by (refine sb_from ?_ hs; repeat constructor)
    have hD := hs.heap
    have hs := (hs.putObj (.deferred none)).drop
    refine ⟨by simp, .inl ⟨_, _, rfl, run_takeDeferred hD, ?_⟩⟩
    exact ⟨_, results_two hs rfl rfl rfl (by kernel_rfl) (by kernel_rfl), by rw [HL.out]; rfl, by (refine sb_from ?_ hs; repeat constructor)⟩
  case stop =>
    rintro D cd L x w' ⟨rest, hrest⟩ ⟨rfl, p, rfl, hall, hx⟩ hs
    simp only [List.cons_append, List.nil_append] at hs
    have HL := Lib.hid (show wordW ws col = some x by rw [← hrest, List.append_assoc]; exact word_at hall hx)
    clear hall hrest hx
    replace hs : sat W (blk D (.deferred (some [])) :: cel z3 4 [.bool true] :: cel z2 87 (exC x) :: (Hc ++ H)) w' := by (refine sb_from ?_ hs; repeat constructor)
    go_wp2_with (first | ((with_reducible refine isl ?_); first | ((with_reducible apply ldx); exact rfl; exact rfl; exact rfl; (first | exact hs.b0 | exact hs.b1 | exact hs.b2 | exact hs.b3); exact rfl; kernel_rfl) | ((with_reducible apply stx); exact rfl; exact rfl; exact rfl; (first | exact hs.b0 | exact hs.b1 | exact hs.b2 | exact hs.b3); exact rfl; exact rfl; exact rfl; kernel_rfl; exact rfl; clear hs; intro w hs) | ((with_reducible apply stcx); exact rfl; exact rfl; exact rfl; (first | exact hs.b0 | exact hs.b1 | exact hs.b2 | exact hs.b3); exact rfl; exact rfl; kernel_rfl; exact rfl; clear hs; intro w hs) | ((with_reducible refine wrap hs ?_); clear hs; intro w hs) | ((with_reducible refine wrapn hs ?_); clear hs; intro w hs) | ((with_reducible refine wrapd hs ?_); clear hs; intro w hs)))
    have hD := hs.heap
    have hs := (hs.putObj (.deferred none)).drop
    refine ⟨by simp, .inl ⟨_, _, rfl, run_takeDeferred hD, ?_⟩⟩
    exact ⟨_, results_two hs rfl rfl rfl (by kernel_rfl) (by kernel_rfl), by rw [HL.out]; rfl, by (refine sb_from ?_ hs; repeat constructor)⟩
end
end Go.Proofs.Ytcheljogpffabaa
