import Derived.Test.YtninmdoeippcgaaProg
import Derived.Test.YtninmdoeippcgaaSn
import Derived.Test.YtninmdoeippcgaaM1
import Derived.Laws.BitsAllLaws
import Derived.Outline
import Derived.DeepKeys4
namespace Go.Proofs.Ytninmdoeippcgaa
open Go.RowKit Go.Mem Go.Modes Go.Maps
variable {W w : World} {H : List HProp}
abbrev mL (m : M) : List Value := [.bool m.a0, .bool m.a1, .bool m.a2, .bool m.a3, .bool m.a4, .bool m.a5, .bool m.a6, .bool m.a7]
abbrev mV (m : M) : Value := .agg #[.bool m.a0, .bool m.a1, .bool m.a2, .bool m.a3, .bool m.a4, .bool m.a5, .bool m.a6, .bool m.a7]
/-! ## Keys -/
def kenc (y : Bool × Int) : Value := .agg #[.bool y.1, .int .i64 y.2]
theorem kinj (x y : Bool × Int) (h : kenc x = kenc y) : x = y := by
  obtain ⟨a, b⟩ := x
  obtain ⟨c, d⟩ := y
  simp [kenc] at h
  simp [h]
theorem laid : laidOutB Try.prog = true := by kernel_rfl
theorem klaw : Keyed Try.prog 44 := Keyed.of_law (deep_law_laid laid (m := 2) (by omega) (of_decide_eq_true (by kernel_rfl)) (by kernel_rfl) (by rw [Try.underlying44]))
theorem types_size : Try.prog.types.size = 64 := by kernel_rfl
theorem key_some (y : Bool × Int) (h : (Lit.int .i64 y.2).wf = true) : ∃ l, keyOf Try.prog 44 (kenc y) = some l := by
  have h1 : Try.prog.keyType 44 = true := by kernel_rfl
  have h2 : Try.prog.cellsOf 44 = 2 := by kernel_rfl
  have h3 : Try.prog.cellsOf 4 = 1 := by kernel_rfl
  have h4 : Try.prog.cellsOf 3 = 1 := by kernel_rfl
  have hf : (kenc y).formed Try.prog 44 = true := by simp [kenc, Value.formed, Try.underlying44, h2]
  unfold keyOf
  rw [Try.underlying44]
  simp only [h1, hf, Bool.and_self, if_true, types_size]
  have e4 : ∀ (d : Nat) (b : Bool), Try.prog.keyLits (d + 1) 4 [.bool b] = some [.bool b] := fun d b => by unfold Program.keyLits; rw [Try.underlying4]
  have e3 : Try.prog.keyLits (63 + 1) 3 [.int .i64 y.2] = some [.int .i64 y.2] := by unfold Program.keyLits; rw [Try.underlying3]; simp only [true_and]; rw [if_pos h]
  have e := e4 63 y.1
  refine ⟨.string (keyBytes [.bool y.1, .int .i64 y.2]), ?_⟩
  have : Try.prog.keyLits (64 + 1) 44 (kenc y).cells.toList = some [.bool y.1, .int .i64 y.2] := by
    unfold Program.keyLits
    rw [Try.underlying44]
    simp only [kenc, Value.cells, List.length_cons, List.length_nil, h2]
    rw [if_pos ⟨trivial, by decide +kernel⟩]
    simp only [List.mapM_cons, List.mapM_nil, h3, h4, List.drop_zero, List.take_succ_cons, List.take_zero, List.drop_succ_cons]
    show (do let x ← Try.prog.keyLits (63 + 1) 4 [.bool y.1]; let xs ← (do let x ← Try.prog.keyLits (63 + 1) 3 [.int .i64 y.2]; let xs ← pure []; pure (x :: xs)); pure (x :: xs) : Option (List (List Lit))).map List.flatten = _
    rw [e, e3]; rfl
  rw [this]; rfl
/-! ## The table of modes -/
def kO (i : Nat) : Bool × Int := if i = 5 then (false, 4) else if i = 10 then (false, 20) else if i = 15 then (true, 1) else if i = 20 then (true, 6) else if i = 25 then (true, 7) else if i = 30 then (true, 25) else if i = 35 then (true, 47) else if i = 40 then (true, 1047) else if i = 45 then (true, 1049) else (true, 2004)
def fO (i : Nat) : Nat := if i = 5 then 0 else if i = 10 then 1 else if i = 15 then 2 else if i = 20 then 3 else if i = 25 then 4 else if i = 30 then 5 else if i = 35 then 6 else if i = 40 then 6 else if i = 45 then 6 else 7
def ins (b : Nat) (i : Nat) (t : Bool × Int → Option Value) : Bool × Int → Option Value := upd t (kO i) (.pointer (some ⟨b, fO i, none⟩))
def tab (b : Nat) (D : List Nat) : Bool × Int → Option Value := D.foldr (ins b) (fun _ => none)
abbrev allI : List Nat := [5, 10, 15, 20, 25, 30, 35, 40, 45, 50]
theorem kO_inj : ∀ i ∈ allI, ∀ j ∈ allI, kO i = kO j → i = j := by decide
theorem ins_comm (b : Nat) {i j : Nat} (h : i = j ∨ kO i ≠ kO j) (t : Bool × Int → Option Value) : ins b i (ins b j t) = ins b j (ins b i t) := by
  rcases h with rfl | h
  · rfl
  · funext y
    unfold ins upd
    by_cases h1 : y = kO i
    · rw [if_pos h1, if_neg (fun e => h (h1.symm.trans e)), if_pos h1]
    · rw [if_neg h1]
      by_cases h2 : y = kO j
      · rw [if_pos h2, if_pos h2]
      · rw [if_neg h2, if_neg h2, if_neg h1]
theorem tab_perm (b : Nat) {D E : List Nat} (p : D.Perm E) : (∀ i ∈ D, i ∈ allI) → tab b D = tab b E := by
  induction p with
  | nil => exact fun _ => rfl
  | cons i _ ih => intro h; show ins b i (tab b _) = ins b i (tab b _); rw [ih fun j hj => h j (by simp [hj])]
  | swap i j l =>
    intro h
    refine ins_comm b ?_ _
    by_cases e : kO j = kO i
    · exact .inl (kO_inj j (h j (by simp)) i (h i (by simp)) e)
    · exact .inr e
  | trans p1 p2 ih1 ih2 => intro h; rw [ih1 h, ih2 fun j hj => h j (p1.mem_iff.2 hj)]
theorem tab_nil (b : Nat) : tab b [] = fun _ => none := rfl
theorem tab_cons (b i : Nat) (D : List Nat) : tab b (i :: D) = upd (tab b D) (kO i) (.pointer (some ⟨b, fO i, none⟩)) := rfl
def ptrTo (b : Nat) (i : Option Nat) : Value := match i with | none => .pointer none | some k => .pointer (some ⟨b, k, none⟩)
theorem tab_all (b : Nat) (p : Bool) (n : Int) : ((tab b allI) (p, n)).getD (.pointer none) = ptrTo b (place p n) := by
  unfold tab allI
  simp only [List.foldr_cons, List.foldr_nil, ins, upd, kO, fO, place]
  cases p <;> simp <;> (repeat' split) <;> first | rfl | omega
theorem zero37 (w : World) : (zeroValue 37).run Try.prog w = .ok (.pointer none) w := by kernel_rfl
attribute [local irreducible] World.setCell World.setCells World.alloc World.drew World.drewN Calls sat cel own blk old mp wpQuiet tab
set_option maxHeartbeats 4000000 in
theorem flag17 (b : Nat) (m : M) (p : Bool) (n : Int) (hn : (Lit.int .i64 n).wf = true) (hs : sat W (cel b 23 (mL m) :: H) w) :
    Calls Try.prog 17 #[.pointer (some ⟨b, 0, none⟩), .bool p, .int .i64 n] w fun e w' => e = .returned (ptrTo b (place p n)) ∧ sat W (cel b 23 (mL m) :: H) w' := by
  have HT := Lib.hid (tab_all b p n)
  obtain ⟨l, hl⟩ := key_some (p, n) hn
  have HL := Lib.hid hl
  clear hl hn
  have hmm := @run_makeMap Try.prog
  go_enter Try.func17, Try.ntmps17
  go_wp2_with (first | (refine wrap hs ?_; clear hs; intro w hs) | (refine wrapn hs ?_; clear hs; intro w hs) | (refine wrapd hs ?_; clear hs; intro w hs))
  refine region_mix [([1, 2, 3, 4, 6, 7, 8, 9, 11, 12, 13, 14, 16, 17, 18, 19, 21, 22, 23, 24, 26, 27, 28, 29, 31, 32, 33, 34, 36, 37, 38, 39, 41, 42, 43, 44, 46, 47, 48, 49, 52, 53, 54], [0]), ([], [5, 10, 15, 20, 25, 30, 35, 40, 45, 50])] [51, 55, 56] hs (fun _ h => h) (by kernel_rfl) (by kernel_rfl) (fun _ _ _ _ _ h => h) ?_
  simp only [segs, nths, nth, List.append_nil, List.nil_append, List.cons_append, List.map_cons, List.map_nil]
  refine seg_reads (fun _ h => h) ?_; intro X f hne hf hcl; (try simp only [Act.put, List.setIfInBounds_toArray, List.set_cons_succ, List.set_cons_zero]); (repeat (first | (apply lkq (f := f) (y := (p, n)) (fun x => hf x); exact rfl; exact rfl; exact rfl; exact rfl; exact klaw; exact Try.underlying45; exact zero37; exact kinj; exact HL.out; rw [HT.out]; (try simp only [Act.put, List.setIfInBounds_toArray, List.set_cons_succ, List.set_cons_zero])) | go_big_quiet_step (fail))); refine wpQuiet_nil ?_; clear hcl hf hne hs f X; intro w hs
  go_wp2_with (first | (refine wrapm Try.prog 44 kenc hs ?_; clear hs; generalize w.heap.size = zm; intro w hs) | (refine wrap hs ?_; clear hs; intro w hs) | (refine wrapn hs ?_; clear hs; intro w hs) | (refine wrapd hs ?_; clear hs; intro w hs))
  (first | (refine seg_on (hs.map_new Try.prog 44 kenc) (fun _ h => h) (fun _ h => by (refine sat_from ?_ h; repeat (first | exact Sub.refl _ | exact Sub.nil _ | refine Sub.c0 ?_ | refine Sub.c1 ?_ | refine Sub.c2 ?_ | refine Sub.c3 ?_ | refine Sub.c4 ?_ | refine Sub.c5 ?_ | refine Sub.c6 ?_ | refine Sub.c7 ?_ | refine Sub.c8 ?_ | refine Sub.c9 ?_ | refine Sub.skip ?_))) ?_; clear hs; intro hs; generalize w.heap.size = zm at hs ⊢) | (refine seg_on hs (fun _ h => h) (fun _ h => by (refine sat_from ?_ h; repeat (first | exact Sub.refl _ | exact Sub.nil _ | refine Sub.c0 ?_ | refine Sub.c1 ?_ | refine Sub.c2 ?_ | refine Sub.c3 ?_ | refine Sub.c4 ?_ | refine Sub.c5 ?_ | refine Sub.c6 ?_ | refine Sub.c7 ?_ | refine Sub.c8 ?_ | refine Sub.c9 ?_ | refine Sub.skip ?_))) ?_; clear hs; intro hs) | (refine seg_on hs.made (fun _ h => h) (fun _ h => by (refine sat_from ?_ h; repeat (first | exact Sub.refl _ | exact Sub.nil _ | refine Sub.c0 ?_ | refine Sub.c1 ?_ | refine Sub.c2 ?_ | refine Sub.c3 ?_ | refine Sub.c4 ?_ | refine Sub.c5 ?_ | refine Sub.c6 ?_ | refine Sub.c7 ?_ | refine Sub.c8 ?_ | refine Sub.c9 ?_ | refine Sub.skip ?_))) ?_; clear hs; intro hs) | (refine seg_on hs.drew (fun _ h => h) (fun _ h => by (refine sat_from ?_ h; repeat (first | exact Sub.refl _ | exact Sub.nil _ | refine Sub.c0 ?_ | refine Sub.c1 ?_ | refine Sub.c2 ?_ | refine Sub.c3 ?_ | refine Sub.c4 ?_ | refine Sub.c5 ?_ | refine Sub.c6 ?_ | refine Sub.c7 ?_ | refine Sub.c8 ?_ | refine Sub.c9 ?_ | refine Sub.skip ?_))) ?_; clear hs; intro hs) | (refine seg_on hs.drew.made (fun _ h => h) (fun _ h => by (refine sat_from ?_ h; repeat (first | exact Sub.refl _ | exact Sub.nil _ | refine Sub.c0 ?_ | refine Sub.c1 ?_ | refine Sub.c2 ?_ | refine Sub.c3 ?_ | refine Sub.c4 ?_ | refine Sub.c5 ?_ | refine Sub.c6 ?_ | refine Sub.c7 ?_ | refine Sub.c8 ?_ | refine Sub.c9 ?_ | refine Sub.skip ?_))) ?_; clear hs; intro hs) | (refine seg_on (hs.drewN _) (fun _ h => h) (fun _ h => by (refine sat_from ?_ h; repeat (first | exact Sub.refl _ | exact Sub.nil _ | refine Sub.c0 ?_ | refine Sub.c1 ?_ | refine Sub.c2 ?_ | refine Sub.c3 ?_ | refine Sub.c4 ?_ | refine Sub.c5 ?_ | refine Sub.c6 ?_ | refine Sub.c7 ?_ | refine Sub.c8 ?_ | refine Sub.c9 ?_ | refine Sub.skip ?_))) ?_; clear hs; intro hs))
  refine seg_set ⟨_, hs⟩ (fun _ h => by (refine sat_from ?_ h; repeat (first | exact Sub.refl _ | exact Sub.nil _ | refine Sub.c0 ?_ | refine Sub.c1 ?_ | refine Sub.c2 ?_ | refine Sub.c3 ?_ | refine Sub.c4 ?_ | refine Sub.c5 ?_ | refine Sub.c6 ?_ | refine Sub.c7 ?_ | refine Sub.c8 ?_ | refine Sub.c9 ?_ | refine Sub.skip ?_))) ?_; intro X f hne hf hcl; (try simp only [Act.put, List.setIfInBounds_toArray, List.set_cons_succ, List.set_cons_zero]); (repeat (first | (apply lkq (f := f) (y := (p, n)) (fun x => hf x); exact rfl; exact rfl; exact rfl; exact rfl; exact klaw; exact Try.underlying45; exact zero37; exact kinj; exact HL.out; rw [HT.out]; (try simp only [Act.put, List.setIfInBounds_toArray, List.set_cons_succ, List.set_cons_zero])) | go_big_quiet_step (fail))); refine wpQuiet_nil ?_; clear hcl hf hne; refine ⟨fun D w => sat W (mp Try.prog 44 kenc zm (tab b D) :: cel b 23 (mL m) :: H) w, sat W (mp Try.prog 44 kenc zm (tab b allI) :: cel b 23 (mL m) :: H), sat W (mp Try.prog 44 kenc zm (tab b allI) :: cel b 23 (mL m) :: H), (fun w h => by show sat W (mp Try.prog 44 kenc zm (tab b []) :: cel b 23 (mL m) :: H) w; rw [tab_nil]; exact h), (fun _ _ h => h.drop), (fun _ h => h.drop), (fun _ h => h), (fun D w hp h => by rw [← tab_perm b hp (fun i hi => hp.mem_iff.1 hi)]; exact h), ?_, ?_⟩; (intro i hi D w hnd hsub hni hs; have HK := Lib.hid (key_some (kO i)); simp only [List.mem_cons, List.not_mem_nil, or_false] at hi; rcases hi with rfl | rfl | rfl | rfl | rfl | rfl | rfl | rfl | rfl | rfl <;> (obtain ⟨l2, hl2⟩ := HK.out (by decide +kernel); simp only [nth, List.toList_toArray]; apply mu hs (Or.inr rfl) rfl rfl rfl rfl klaw Try.underlying45 kinj hl2; intro w' hs'; exact ⟨rfl, by rw [tab_cons]; exact hs'⟩))
  refine seg_last (fun _ h => by (refine sat_from ?_ h; repeat (first | exact Sub.refl _ | exact Sub.nil _ | refine Sub.c0 ?_ | refine Sub.c1 ?_ | refine Sub.c2 ?_ | refine Sub.c3 ?_ | refine Sub.c4 ?_ | refine Sub.c5 ?_ | refine Sub.c6 ?_ | refine Sub.c7 ?_ | refine Sub.c8 ?_ | refine Sub.c9 ?_ | refine Sub.skip ?_))) ?_; intro X f hne hf hcl; (try simp only [Act.put, List.setIfInBounds_toArray, List.set_cons_succ, List.set_cons_zero]); (repeat (first | (apply lkq (f := f) (y := (p, n)) (fun x => hf x); exact rfl; exact rfl; exact rfl; exact rfl; exact klaw; exact Try.underlying45; exact zero37; exact kinj; exact HL.out; rw [HT.out]; (try simp only [Act.put, List.setIfInBounds_toArray, List.set_cons_succ, List.set_cons_zero])) | go_big_quiet_step (fail))); refine wpQuiet_nil ?_; clear hcl hf hne hs f X; intro w hs
  go_wp2_with (first | (refine wrap hs ?_; clear hs; intro w hs) | (refine wrapn hs ?_; clear hs; intro w hs) | (refine wrapd hs ?_; clear hs; intro w hs))
  go_ret
  exact ⟨rfl, hs.drop⟩
end Go.Proofs.Ytninmdoeippcgaa
