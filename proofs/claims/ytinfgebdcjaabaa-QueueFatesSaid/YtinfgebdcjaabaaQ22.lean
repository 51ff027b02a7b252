/- Law 18: fates in a map; each is noted. -/
import Derived.Test.YtinfgebdcjaabaaQ20
import Derived.Test.YtinfgebdcjaabaaQ21
import Derived.Test.YtinfgebdcjaabaaSm
import Derived.Maps.Keyed
namespace Go.Proofs.Ytinfgebdcjaabaa
open Go.RowKit Go.Mem Go.Queue Go.Maps
variable {W w : World} {H : List HProp}
theorem klaw2 : Keyed Try.prog 2 := int_keyed Try.underlying2
theorem key_i64 {x : Int} (h : 1 ≤ x ∧ x ≤ 1000000) : keyOf Try.prog 2 (.int .i64 x) = some (.int .i64 x) := by
  have hw : (Lit.int .i64 x).wf = true := by
    simp [Lit.wf, IntKind.min, IntKind.max, IntKind.signed, IntKind.bits]; omega
  simp [keyOf, Try.underlying2, mapKey, hw]
abbrev ienc (x : Int) : Value := Value.int .i64 x
theorem ienc_inj : ∀ x y, ienc x = ienc y → x = y := fun x y h => by cases h; rfl
def ftm (S : List Int) : Int → Option Value := fun n => if n ∈ S then some (.int .i64 1) else none
theorem ftm_nil : ftm [] = fun _ => none := by funext n; simp [ftm]
theorem ftm_add (S : List Int) (x : Int) : upd (ftm S) x (.int .i64 1) = ftm (S ++ [x]) := by
  funext n
  unfold upd ftm
  by_cases h : n = x
  · simp [h]
  · simp [h]
abbrev ft (mb : Nat) (S : List Int) : HProp := mp Try.prog 2 ienc mb (ftm S)
theorem zero3 (w : World) : (zeroValue 3).run Try.prog w = .ok (.int .i64 0) w := by
  obtain ⟨i0, hi, hz0, hz1, hz2⟩ := info_parts (show (Try.prog.info? 3).map (fun i => (i.zero, i.size, i.bytes)) = some (some (.int .i64 0), 1, 8) by kernel_rfl)
  simp [zeroValue, typeInfo, hi, hz0]
theorem one46 : oneTy Try.prog 46 = true := by kernel_rfl
theorem one2 : oneTy Try.prog 2 = true := by kernel_rfl
section
variable {ops : Array Oper} {rest : List Oper} {o : Oper} {a : Act} {Q : Exit → Act → World → Prop} {b : Nat} {m : Int → Option Value}
theorem lkz {x i : Operand} {y : Int}
    (hs : sat W (mp Try.prog 2 ienc b m :: H) w) (ho : o.op = .lookup 46 x i false) (hw : Region.wanted o (yielded ops a.tmps) = true) (hx : a.eval x = .map (some b)) (hi : a.eval i = .int .i64 y)
    (hy : 1 ≤ y ∧ y ≤ 1000000) (hm : m y = none) (h : wpList Try.prog ops Q rest (a.put o.dst (.int .i64 0)) w) : wpList Try.prog ops Q (o :: rest) a w :=
  lk hs ho hw hx (hi.trans rfl) klaw2 Try.underlying46 (zero3 w) ienc_inj (key_i64 hy) (by rw [hm]; exact h)
theorem lk1 {x i : Operand} {y : Int} {v : Value}
    (hs : sat W (mp Try.prog 2 ienc b m :: H) w) (ho : o.op = .lookup 46 x i false) (hw : Region.wanted o (yielded ops a.tmps) = true) (hx : a.eval x = .map (some b)) (hi : a.eval i = .int .i64 y)
    (hy : 1 ≤ y ∧ y ≤ 1000000) (hm : m y = some v) (h : wpList Try.prog ops Q rest (a.put o.dst v) w) : wpList Try.prog ops Q (o :: rest) a w :=
  lk hs ho hw hx (hi.trans rfl) klaw2 Try.underlying46 (zero3 w) ienc_inj (key_i64 hy) (by rw [hm]; exact h)
theorem mu1 {x i v : Operand} {y : Int} {S : List Int}
    (hs : sat W (ft b S :: H) w) (ho : o.op = .mapUpdate 46 x i v) (hw : Region.wanted o (yielded ops a.tmps) = true) (hx : a.eval x = .map (some b)) (hi : a.eval i = .int .i64 y) (hv : a.eval v = .int .i64 1)
    (hy : 1 ≤ y ∧ y ≤ 1000000) (h : ∀ w', sat W (ft b (S ++ [y]) :: H) w' → wpList Try.prog ops Q rest (a.put o.dst undef) w') : wpList Try.prog ops Q (o :: rest) a w :=
  mu hs (.inl ho) hw hx (hi.trans rfl) hv klaw2 Try.underlying46 ienc_inj (key_i64 hy) (fun w' hs => h w' (by rw [ftm_add] at hs; exact hs))
end
theorem nosOf_take {l : List Ut} {j : Nat} {x : Ut} (h : l[j]? = some x) : nosOf (l.take (j + 1)) = nosOf (l.take j) ++ [x.num] := by
  rw [List.take_add_one, h]; simp [nosOf]
theorem not_yet {l : List Ut} {j : Nat} {x : Ut} {S : List Int} (hnd : (S ++ nosOf l).Nodup) (h : l[j]? = some x) : ftm (S ++ nosOf (l.take j)) x.num = none := by
  obtain ⟨h1, _⟩ := split_at h
  rw [h1, nosOf_append, ← List.append_assoc, List.nodup_append] at hnd
  obtain ⟨_, _, hd⟩ := hnd
  unfold ftm
  rw [if_neg (fun hm => hd _ hm x.num (by simp [nosOf]) rfl)]
theorem nos_at {l : List Ut} {j : Nat} {x : Ut} (h : l[j]? = some x) : x.num ∈ nosOf l := List.mem_map_of_mem (List.mem_of_getElem? h)
attribute [local irreducible] World.setCell World.setCells World.alloc World.drew World.drewN Calls sat cel own blk old wpQuiet wpList qu uts gn World.rangeAt tru leastUpto bestUpto si Utf8.decode wc wst wordsOf may PutPost put accept mark mp ftm
variable {b : Nat} {q : Qu}
set_option maxHeartbeats 1000000 in
theorem note15 {a : Option Addr} {n c : Nat} {l : List Ut} (hn : l.length = n) (hl : n ≤ 1000) {S : List Int} (hnd : (S ++ nosOf l).Nodup) (hb : ∀ x ∈ nosOf l, 1 ≤ x ∧ x ≤ 1000000) {z mb : Nat}
    (hs : sat W (own 25 5 (.slice a n c) n (uts l) :: cel z 46 [.map (some mb)] :: ft mb S :: H) w) : Calls Try.prog 15 #[.slice a n c, .pointer (some ⟨z, 0, none⟩)] w fun e w' => e = .returned (.tuple #[]) ∧ sat W (own 25 5 (.slice a n c) n (uts l) :: cel z 46 [.map (some mb)] :: ft mb (S ++ nosOf l) :: H) w' := by
  have HN := Lib.hid hn
  have HD := Lib.hid hnd
  have HB := Lib.hid hb
  clear hn hnd hb
  go_enter Try.func15, Try.ntmps15
  go_wp2_with fail
  go_loopw [7] (fun i wr => ∃ j : Nat, j ≤ n ∧ i = .int .i64 (j : Int) ∧ sat W (own 25 5 (.slice a n c) n (uts l) :: cel z 46 [.map (some mb)] :: ft mb (S ++ nosOf (l.take j)) :: H) wr) (fun i _ => ((n : Int) - intOf i).toNat)
  case atStart => exact ⟨0, Nat.zero_le _, rfl, by simpa [nosOf] using hs⟩
  case round =>
    clear hs
    obtain ⟨j, hj, rfl, hs⟩ := hrel
    by_cases hjn : j < n
    · obtain ⟨x, hx⟩ : ∃ x, l[j]? = some x := ⟨_, List.getElem?_eq_getElem (by rw [HN.out]; exact hjn)⟩
      have HX := Lib.hid hx
      clear hx
      obtain ⟨g1, c1', e1⟩ := hs.own_some (by omega)
      cases e1
      go_wp2_with (first | (apply lkz hs.b2; exact rfl; exact rfl; exact rfl; exact rfl; exact HB.out _ (nos_at HX.out); exact not_yet HD.out HX.out) | (apply lkz hs.b3; exact rfl; exact rfl; exact rfl; exact rfl; exact HB.out _ (nos_at HX.out); exact not_yet HD.out HX.out) | (apply mu1 hs.b3; exact rfl; exact rfl; exact rfl; exact rfl; exact rfl; exact HB.out _ (nos_at HX.out); clear hs; intro w hs) | (first | (((with_reducible apply ldsc (cs := utC x)); exact rfl; exact rfl; exact rfl; exact uts_range hs.b0 HX.out; exact row25)) | (((with_reducible apply ldsc (cs := utC x)); exact rfl; exact rfl; exact rfl; exact uts_range hs.b1 HX.out; exact row25)) | (((with_reducible apply ldsc (cs := utC x)); exact rfl; exact rfl; exact rfl; exact uts_range hs.b2 HX.out; exact row25)) | (((with_reducible apply ldsc (cs := utC x)); exact rfl; exact rfl; exact rfl; exact uts_range hs.b3 HX.out; exact row25)) | (((with_reducible apply ldsc (cs := utC x)); exact rfl; exact rfl; exact rfl; exact uts_range hs.b4 HX.out; exact row25))) | ((with_reducible refine isl ?_); first | ((with_reducible apply stsw hs.b0); exact rfl; exact rfl; exact rfl; exact rfl; exact row25; exact rfl; exact rfl; exact rfl; clear hs; intro w hs) | ((with_reducible refine wrap hs ?_); clear hs; generalize wr.heap.size = z7; intro w hs) | ((with_reducible apply ld hs.b0); exact rfl; exact rfl; exact rfl; exact rfl; kernel_rfl) | ((with_reducible apply ld hs.b1); exact rfl; exact rfl; exact rfl; exact rfl; kernel_rfl) | ((with_reducible apply ld hs.b2); exact rfl; exact rfl; exact rfl; exact rfl; kernel_rfl) | ((with_reducible apply ld hs.b3); exact rfl; exact rfl; exact rfl; exact rfl; kernel_rfl) | ((with_reducible apply ld hs.b4); exact rfl; exact rfl; exact rfl; exact rfl; kernel_rfl) | ((with_reducible apply st hs.b0); exact rfl; exact rfl; exact rfl; exact rfl; exact rfl; exact rfl; kernel_rfl; exact rfl; clear hs; intro w hs) | ((with_reducible apply st hs.b1); exact rfl; exact rfl; exact rfl; exact rfl; exact rfl; exact rfl; kernel_rfl; exact rfl; clear hs; intro w hs) | ((with_reducible apply st hs.b2); exact rfl; exact rfl; exact rfl; exact rfl; exact rfl; exact rfl; kernel_rfl; exact rfl; clear hs; intro w hs) | ((with_reducible apply st hs.b3); exact rfl; exact rfl; exact rfl; exact rfl; exact rfl; exact rfl; kernel_rfl; exact rfl; clear hs; intro w hs) | ((with_reducible apply st hs.b4); exact rfl; exact rfl; exact rfl; exact rfl; exact rfl; exact rfl; kernel_rfl; exact rfl; clear hs; intro w hs) | ((with_reducible apply stc hs.b0); exact rfl; exact rfl; exact rfl; exact rfl; exact rfl; kernel_rfl; exact rfl; clear hs; intro w hs) | ((with_reducible apply stc hs.b1); exact rfl; exact rfl; exact rfl; exact rfl; exact rfl; kernel_rfl; exact rfl; clear hs; intro w hs) | ((with_reducible apply stc hs.b2); exact rfl; exact rfl; exact rfl; exact rfl; exact rfl; kernel_rfl; exact rfl; clear hs; intro w hs) | ((with_reducible apply stc hs.b3); exact rfl; exact rfl; exact rfl; exact rfl; exact rfl; kernel_rfl; exact rfl; clear hs; intro w hs) | ((with_reducible apply stc hs.b4); exact rfl; exact rfl; exact rfl; exact rfl; exact rfl; kernel_rfl; exact rfl; clear hs; intro w hs) | ((with_reducible refine wrap hs ?_); clear hs; intro w hs) | ((with_reducible refine wrapn hs ?_); clear hs; intro w hs) | ((with_reducible refine wrapd hs ?_); clear hs; intro w hs)))
      go_roundw
      case rel => exact ⟨j + 1, by omega, by go_num, by rw [nosOf_take HX.out, ← List.append_assoc]; (refine sat_from ?_ hs; repeat (first | exact Sub.refl _ | exact Sub.nil _ | refine Sub.c0 ?_ | refine Sub.c1 ?_ | refine Sub.c2 ?_ | refine Sub.c3 ?_ | refine Sub.c4 ?_ | refine Sub.c5 ?_ | refine Sub.c6 ?_ | refine Sub.c7 ?_ | refine Sub.c8 ?_ | refine Sub.c9 ?_ | refine Sub.skip ?_))⟩
      case measure => simp [intOf]; omega
    · have hjn : j = n := by omega
      obtain rfl : n = j := hjn.symm
      go_wp2_with fail
      refine end_end0 rfl rfl ⟨rfl, ?_⟩
      rw [← HN.out, List.take_length] at hs
      rw [← HN.out]
      exact hs
/-- How many keys there are. -/
theorem map_size {mb : Nat} {S : List Int} (hnd : S.Nodup) (hs : sat W (ft mb S :: H) w) : ∃ es clock, w.heap[mb]? = some (.map es clock) ∧ es.size = S.length := by
  obtain ⟨es, clock, hb, _, p1, p2, p3⟩ := hs.map_open
  refine ⟨es, clock, hb, ?_⟩
  have hk : (es.toList.map (·.key)).Nodup := List.pairwise_map.2 p3
  have hk2 : (S.map ienc).Nodup := List.pairwise_map.2 (hnd.imp fun h e => h (ienc_inj _ _ e))
  have hsame : ∀ v, v ∈ es.toList.map (·.key) ↔ v ∈ S.map ienc := by
    intro v
    constructor
    · intro hv
      obtain ⟨e, he, rfl⟩ := List.mem_map.1 hv
      obtain ⟨x, hx, hm, _⟩ := p1 e he
      rw [hx]
      unfold ftm at hm
      split at hm
      · rename_i hin; exact List.mem_map_of_mem hin
      · cases hm
    · intro hv
      obtain ⟨x, hx, rfl⟩ := List.mem_map.1 hv
      obtain ⟨e, he, hk⟩ := p2 x (.int .i64 1) (by unfold ftm; rw [if_pos hx])
      exact List.mem_map.2 ⟨e, he, hk⟩
  have := ((List.perm_ext_iff_of_nodup hk hk2).2 hsame).length_eq
  simpa using this
end Go.Proofs.Ytinfgebdcjaabaa
