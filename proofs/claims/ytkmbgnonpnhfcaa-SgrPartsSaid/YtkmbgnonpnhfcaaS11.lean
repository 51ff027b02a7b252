import Derived.Test.YtkmbgnonpnhfcaaS9
import Derived.Test.YtkmbgnonpnhfcaaSy
import Derived.Deep.DeepCutAuto
namespace Go.Proofs.Ytkmbgnonpnhfcaa
open Go.RowKit Go.Mem Go.Sgr
variable {W w : World} {H : List HProp}
theorem SL.reads {ad : Option Addr} {n cp : Nat} {l : List Int} (h : SL W H ad n cp l) (hs : sat W H w) : Reads w (.slice ad n cp) (ints l) := h.2.2.2 w hs
theorem SL.at {b off : Nat} {n c : Nat} {l : List Int} (h : SL W H (some ⟨b, off, none⟩) n c l) : ∀ i x, l[i]? = some x → ∀ w', sat W H w' → w'.cell? ⟨b, off + i, none⟩ = some (.int .i64 x) := by
  obtain ⟨_, _, _, hr⟩ := h
  intro i x hx w' hw
  obtain ⟨_, _, h2⟩ := reads_i64 (hr w' hw)
  obtain ⟨b2, off2, e, h3⟩ := h2 (by rcases l with _ | _; simp at hx; simp)
  cases e
  exact h3 i x hx
theorem SL.ptr {ad : Option Addr} {n c : Nat} {l : List Int} (h : SL W H ad n c l) (hs : sat W H w) (hn : 0 < n) : ∃ b off, ad = some ⟨b, off, none⟩ := by
  obtain ⟨rfl, _, _, hr⟩ := h
  obtain ⟨_, _, h1⟩ := reads_i64 (hr w hs)
  obtain ⟨b, off, rfl, _⟩ := h1 hn
  exact ⟨b, off, rfl⟩
theorem SL.get {ad : Option Addr} {n cp : Nat} {l : List Int} (h : SL W H ad n cp l) (hs : sat W H w) {k : Nat} (hk : k < n) : ∃ b off, ad = some ⟨b, off, none⟩ ∧ ∀ w', sat W H w' → w'.cell? ⟨b, off + k, none⟩ = some (.int .i64 (l.getD k 0)) := by
  obtain ⟨b, off, rfl⟩ := h.ptr hs (by omega)
  refine ⟨b, off, rfl, h.at k _ ?_⟩
  have : k < l.length := by rw [← h.1]; exact hk
  rw [List.getD_eq_getElem?_getD, List.getElem?_eq_getElem this]; rfl
theorem ldsq {X : Type} {f : X → World} {P : Program} {o : Oper} {ops : Array Oper} {rest : List Oper} {a : Act} {Q : Act → Prop} {b i : Nat} {T ty : TypeId} {l cs : List Value} {x : Operand} (n : Nat) (hf : ∀ x, sat W (cel b T l :: H) (f x)) (ho : o.op = .load ty x) (hw : Region.wanted o (yielded ops a.tmps) = true) (hx : a.eval x = .pointer (some ⟨b, i, none⟩))
    (ht : rowTy P ty n = true) (hv : (l.drop i).take n = cs) (hn : cs.length = n) (h : wpQuiet P ops (fun w' => ∃ x : X, w' = f x) Q rest (a.put o.dst (.agg cs.toArray))) : wpQuiet P ops (fun w' => ∃ x : X, w' = f x) Q (o :: rest) a := by
  obtain ⟨d, h1, h2, h3⟩ := rowTy_parts ht
  refine BigFrame.wpQuiet_want hw fun K hK => ⟨_, ?_, hK _ h⟩
  rintro _ ⟨x, rfl⟩
  unfold Oper.quietAt execOp
  simp only [ho, hx, Instr.loadAt, Instr.sureAddr, Sem.run_bind, Sem.run_pure, Result.andThen_ok, run_loadVar_mid (f x) b i ty cs d ((hf x).cel_range hv) h1 h2 (by rw [h3, hn])]
  exact ⟨rfl, rfl⟩
theorem apply_nil (a : At) : apply a [] = ⟨0, 0, 0⟩ := rfl
theorem mayB_yes {a : At} (h : may a) : mayB a = true := by unfold mayB; exact decide_eq_true h
theorem mayB_no {a : At} (h : ¬ may a) : mayB a = false := by unfold mayB; exact decide_eq_false h
attribute [local irreducible] World.setCell World.alloc World.drew World.drewN Calls sat cel own blk old wpQuiet flj no go plain follows SL wf apply numbers mayB may
abbrev Z : List Value := [.int .u32 0, .int .u32 0, .int .u16 0]
theorem zfacts {b : Nat} (hs : sat W (cel b 25 Z :: H) w) : (w.cell? ⟨b, 0, none⟩ = some (.int .u32 0) ∧ w.cell? ⟨b, 1, none⟩ = some (.int .u32 0) ∧ w.cell? ⟨b, 2, none⟩ = some (.int .u16 0)) ∧ w.frozen? ⟨b, 0, none⟩ = false ∧ w.frozen? ⟨b, 1, none⟩ = false ∧ w.frozen? ⟨b, 2, none⟩ = false := by
  refine ⟨⟨hs.cel_cell rfl, hs.cel_cell rfl, hs.cel_cell rfl⟩, ?_, ?_, ?_⟩ <;> (unfold cel at hs; exact hs.frozen)
theorem alloc_size (w : World) (o : Obj) : (w.alloc o).heap.size = w.heap.size + 1 := by unfold World.alloc; exact Array.size_push ..
theorem made2 (hs : sat W H w) (T1 : TypeId) (l1 : List Value) (T2 : TypeId) (l2 : List Value) : sat W (cel (w.heap.size + 1) T2 l2 :: cel w.heap.size T1 l1 :: H) ((w.alloc (.cells l1.toArray T1)).alloc (.cells l2.toArray T2)) := by
  have h := (hs.made (T := T1) (l := l1)).made (T := T2) (l := l2)
  rwa [alloc_size] at h
theorem set3 {b : Nat} (hs : sat W (cel b 25 Z :: H) w) (x y z : Int) : sat W (cel b 25 (atL ⟨x, y, z⟩) :: H) (((w.setCell ⟨b, 0, none⟩ (.int .u32 x)).setCell ⟨b, 1, none⟩ (.int .u32 y)).setCell ⟨b, 2, none⟩ (.int .u16 z)) :=
  ((hs.cel_set (i := 0) (.int .u32 x)).cel_set (i := 1) (.int .u32 y)).cel_set (i := 2) (.int .u16 z)
theorem sapp0 {E : Prop} {P : Program} {o : Oper} {ops : Array Oper} {a : Act} {Q : Exit → Act → World → Prop} {K : Act → World → Prop} {s x : Operand} {t e : TypeId} {bytes m g : Nat} {v : Value} {xs : List Value} (hs : sat W (cel g e [] :: H) w)
    (hgd : o.guard = none) (ho : o.op = .call { callee := .builtin .append, args := #[s, x], argTypes := #[t, t] })
    (hev : a.eval s = .slice (some ⟨g, 0, none⟩) 0 0) (hx : a.eval x = v) (ht : SlTy P t e 1 bytes) (hr : Reads w v xs) (h1 : ∀ u ∈ xs, u.oneCell' = true) (hm : xs.length = m)
    (hbytes : m * bytes ≤ 140737488355328) (h63 : m ≤ maxLen)
    (h : ∀ a' c' w', sat W (own e 1 (.slice a' m c') m xs :: H) w' → K (a.put o.dst (.slice a' m c')) w') :
    if Region.wanted o (yielded ops a.tmps) = true then Oper.wp P o a w K Q else E := by
  refine sappb (k := 0) hs rfl hgd ho hev hx ht hr h1 hm (by rwa [Nat.zero_add]) (by rwa [Nat.zero_add]) ?_
  rw [Nat.zero_add]; exact h
theorem ints_append (l m : List Int) : ints l ++ ints m = ints (l ++ m) := by simp
set_option maxHeartbeats 4000000 in
set_option maxRecDepth 8000 in
theorem parts_guard (a : At) (ad ad2 : Option Addr) (n cp n2 cp2 : Nat) (h : 1000 < n ∨ 1000 < n2 ∨ n = 0 ∨ n2 = 0) (h1 : n ≤ maxLen) (h2 : n2 ≤ maxLen) (hs : sat W H w) : Calls Try.prog 5 #[atV a, .slice ad n cp, .slice ad2 n2 cp2] w fun e w' => e = .returned (.bool true) ∧ sat W H w' := by
  unfold maxLen at h1 h2
  obtain ⟨fg, bg, fl⟩ := a
  have hc : 1000 < n ∨ (n ≤ 1000 ∧ 1000 < n2) ∨ (n ≤ 1000 ∧ n2 ≤ 1000 ∧ n = 0) ∨ (n ≤ 1000 ∧ n2 ≤ 1000 ∧ n ≠ 0 ∧ n2 = 0) := by omega
  clear h
  rcases hc with h | ⟨h, g⟩ | ⟨h, g, rfl⟩ | ⟨h, g, k, rfl⟩
  · as_aux_lemma =>
    go_enter Try.func5, Try.ntmps5
    go_wp2_with (first
    | (go_at_call 7; refine (known7 hs).mono ?_; clear hs; rintro e w ⟨rfl, hs⟩)
    | (apply ld hs.b0; exact rfl; exact rfl; exact rfl; exact rfl; kernel_rfl)
    | (apply ld hs.b1; exact rfl; exact rfl; exact rfl; exact rfl; kernel_rfl)
    | (apply st hs.b0; exact rfl; exact rfl; exact rfl; exact rfl; exact rfl; exact rfl; kernel_rfl; exact rfl; clear hs; intro w hs)
    | (apply st hs.b1; exact rfl; exact rfl; exact rfl; exact rfl; exact rfl; exact rfl; kernel_rfl; exact rfl; clear hs; intro w hs)
    | (apply stc hs.b0; exact rfl; exact rfl; exact rfl; exact rfl; exact rfl; kernel_rfl; exact rfl; clear hs; intro w hs)
    | (apply stc hs.b1; exact rfl; exact rfl; exact rfl; exact rfl; exact rfl; kernel_rfl; exact rfl; clear hs; intro w hs)
    | (refine wrap hs ?_; clear hs; intro w hs)
    | (refine wrapn hs ?_; clear hs; intro w hs)
    | (refine wrapd hs ?_; clear hs; intro w hs))
    go_ret
    exact ⟨rfl, hs.drop⟩
  · as_aux_lemma =>
    go_enter Try.func5, Try.ntmps5
    go_wp2_with (first
    | (go_at_call 7; refine (known7 hs).mono ?_; clear hs; rintro e w ⟨rfl, hs⟩)
    | (apply ld hs.b0; exact rfl; exact rfl; exact rfl; exact rfl; kernel_rfl)
    | (apply ld hs.b1; exact rfl; exact rfl; exact rfl; exact rfl; kernel_rfl)
    | (apply st hs.b0; exact rfl; exact rfl; exact rfl; exact rfl; exact rfl; exact rfl; kernel_rfl; exact rfl; clear hs; intro w hs)
    | (apply st hs.b1; exact rfl; exact rfl; exact rfl; exact rfl; exact rfl; exact rfl; kernel_rfl; exact rfl; clear hs; intro w hs)
    | (apply stc hs.b0; exact rfl; exact rfl; exact rfl; exact rfl; exact rfl; kernel_rfl; exact rfl; clear hs; intro w hs)
    | (apply stc hs.b1; exact rfl; exact rfl; exact rfl; exact rfl; exact rfl; kernel_rfl; exact rfl; clear hs; intro w hs)
    | (refine wrap hs ?_; clear hs; intro w hs)
    | (refine wrapn hs ?_; clear hs; intro w hs)
    | (refine wrapd hs ?_; clear hs; intro w hs))
    go_ret
    exact ⟨rfl, hs.drop⟩
  · as_aux_lemma =>
    go_enter Try.func5, Try.ntmps5
    go_wp2_with (first
    | (go_at_call 7; refine (known7 hs).mono ?_; clear hs; rintro e w ⟨rfl, hs⟩)
    | (apply ld hs.b0; exact rfl; exact rfl; exact rfl; exact rfl; kernel_rfl)
    | (apply ld hs.b1; exact rfl; exact rfl; exact rfl; exact rfl; kernel_rfl)
    | (apply st hs.b0; exact rfl; exact rfl; exact rfl; exact rfl; exact rfl; exact rfl; kernel_rfl; exact rfl; clear hs; intro w hs)
    | (apply st hs.b1; exact rfl; exact rfl; exact rfl; exact rfl; exact rfl; exact rfl; kernel_rfl; exact rfl; clear hs; intro w hs)
    | (apply stc hs.b0; exact rfl; exact rfl; exact rfl; exact rfl; exact rfl; kernel_rfl; exact rfl; clear hs; intro w hs)
    | (apply stc hs.b1; exact rfl; exact rfl; exact rfl; exact rfl; exact rfl; kernel_rfl; exact rfl; clear hs; intro w hs)
    | (refine wrap hs ?_; clear hs; intro w hs)
    | (refine wrapn hs ?_; clear hs; intro w hs)
    | (refine wrapd hs ?_; clear hs; intro w hs))
    go_ret
    exact ⟨rfl, hs.drop⟩
  · have f0 : ((n : Int) == 0) = false := by simpa using k
    as_aux_lemma =>
    go_enter Try.func5, Try.ntmps5
    go_wp2_with (first
    | (go_at_call 7; refine (known7 hs).mono ?_; clear hs; rintro e w ⟨rfl, hs⟩)
    | (apply ld hs.b0; exact rfl; exact rfl; exact rfl; exact rfl; kernel_rfl)
    | (apply ld hs.b1; exact rfl; exact rfl; exact rfl; exact rfl; kernel_rfl)
    | (apply st hs.b0; exact rfl; exact rfl; exact rfl; exact rfl; exact rfl; exact rfl; kernel_rfl; exact rfl; clear hs; intro w hs)
    | (apply st hs.b1; exact rfl; exact rfl; exact rfl; exact rfl; exact rfl; exact rfl; kernel_rfl; exact rfl; clear hs; intro w hs)
    | (apply stc hs.b0; exact rfl; exact rfl; exact rfl; exact rfl; exact rfl; kernel_rfl; exact rfl; clear hs; intro w hs)
    | (apply stc hs.b1; exact rfl; exact rfl; exact rfl; exact rfl; exact rfl; kernel_rfl; exact rfl; clear hs; intro w hs)
    | (refine wrap hs ?_; clear hs; intro w hs)
    | (refine wrapn hs ?_; clear hs; intro w hs)
    | (refine wrapd hs ?_; clear hs; intro w hs))
    go_ret
    exact ⟨rfl, hs.drop⟩
set_option maxHeartbeats 4000000 in
set_option maxRecDepth 8000 in
theorem parts_walk (a : At) (ha : wf a) (w0 : World) (ad ad2 : Option Addr) (n cp n2 cp2 : Nat) (l m : List Int) (h : n ≤ 1000) (g : n2 ≤ 1000) (h0 : n ≠ 0) (g0 : n2 ≠ 0) (hl : SL W (old w0 :: H) ad n cp l) (hm : SL W (old w0 :: H) ad2 n2 cp2 m) (hs : sat W (old w0 :: H) w) :
    Calls Try.prog 5 #[atV a, .slice ad n cp, .slice ad2 n2 cp2] w fun e w' => e = .returned (.bool true) ∧ sat W (old w0 :: H) w' := by
  have HA := Lib.hid ha
  have HL := Lib.hid hl
  have HM := Lib.hid hm
  have hl1 : n = l.length := by unfold SL at hl; exact hl.1
  have hm1 : n2 = m.length := by unfold SL at hm; exact hm.1
  have HLn := Lib.hid (show (ints l).length = n by rw [List.length_map, hl1])
  have HMn := Lib.hid (show (ints m).length = n2 by rw [List.length_map, hm1])
  have HE := Lib.hid hl1
  have HE2 := Lib.hid hm1
  have f0 : ((n : Int) == 0) = false := by simpa using h0
  have f1 : ((n2 : Int) == 0) = false := by simpa using g0
  obtain ⟨fg, bg, fl⟩ := a
  clear ha hl hm hl1 hm1
  go_enter Try.func5, Try.ntmps5
  go_wp2_with (first
    | (apply ld hs.b0; exact rfl; exact rfl; exact rfl; exact rfl; kernel_rfl)
    | (apply ld hs.b1; exact rfl; exact rfl; exact rfl; exact rfl; kernel_rfl)
    | (apply st hs.b0; exact rfl; exact rfl; exact rfl; exact rfl; exact rfl; exact rfl; kernel_rfl; exact rfl; clear hs; intro w hs)
    | (apply st hs.b1; exact rfl; exact rfl; exact rfl; exact rfl; exact rfl; exact rfl; kernel_rfl; exact rfl; clear hs; intro w hs)
    | (apply stc hs.b0; exact rfl; exact rfl; exact rfl; exact rfl; exact rfl; kernel_rfl; exact rfl; clear hs; intro w hs)
    | (apply stc hs.b1; exact rfl; exact rfl; exact rfl; exact rfl; exact rfl; kernel_rfl; exact rfl; clear hs; intro w hs)
    | (refine wrap hs ?_; clear hs; (first | generalize w.heap.size = z3); intro w hs)
    | (refine wrap hs ?_; clear hs; intro w hs)
    | (refine wrapn hs ?_; clear hs; intro w hs)
    | (refine wrapd hs ?_; clear hs; intro w hs))
  have hs := hs
  go_loopw [8, 31] (fun _ i wr => ∃ k : Nat, k ≤ n ∧ i = .int .i64 k ∧ Hid (∀ x ∈ l.take k, ¬(x = 38 ∨ x = 48)) ∧ sat W (cel z3 25 (atL ⟨fg, bg, fl⟩) :: old w0 :: H) wr) (fun _ i _ => n - (intOf i).toNat)
  case atStart => exact ⟨0, Nat.zero_le _, rfl, Lib.hid (by simp), hs⟩
  case round =>
    clear hs
    obtain ⟨k, hk, rfl, HK, hs⟩ := hrel
    by_cases hlt : k < n
    · obtain ⟨b, off, rfl, hc⟩ := HL.out.get hs.drop hlt
      have HC := Lib.hid hc
      clear hc
      have HT : Hid (l.take (k + 1) = l.take k ++ [l.getD k 0]) := Lib.hid (by
        have : k < l.length := by rw [← HE.out]; exact hlt
        rw [List.take_succ_eq_append_getElem this, List.getD_eq_getElem?_getD, List.getElem?_eq_getElem this]; rfl)
      generalize l.getD k 0 = x at *
      by_cases h38 : x = 38
      · subst h38
        as_aux_lemma =>
        go_wp2_with (first
    | (apply ldc; exact rfl; exact rfl; exact rfl; exact HC.out _ hs.drop; kernel_rfl)
    | (go_at_call 7; refine (known7 hs).mono ?_; clear hs; rintro e w ⟨rfl, hs⟩)
    | (refine wrap hs ?_; clear hs; intro w hs)
    | (refine wrapn hs ?_; clear hs; intro w hs)
    | (refine wrapd hs ?_; clear hs; intro w hs))
        go_ret
        exact ⟨rfl, hs.drop⟩
      · have b38 := beq_no h38
        by_cases h48 : x = 48
        · subst h48
          as_aux_lemma =>
          go_wp2_with (first
    | (apply ldc; exact rfl; exact rfl; exact rfl; exact HC.out _ hs.drop; kernel_rfl)
    | (go_at_call 7; refine (known7 hs).mono ?_; clear hs; rintro e w ⟨rfl, hs⟩)
    | (refine wrap hs ?_; clear hs; intro w hs)
    | (refine wrapn hs ?_; clear hs; intro w hs)
    | (refine wrapd hs ?_; clear hs; intro w hs))
          go_ret
          exact ⟨rfl, hs.drop⟩
        · have b48 := beq_no h48
          have HK2 : Hid (∀ y ∈ l.take (k + 1), ¬(y = 38 ∨ y = 48)) := Lib.hid (by
            rw [HT.out]; intro y hy
            rcases List.mem_append.1 hy with hy | hy
            · exact HK.out y hy
            · rw [List.mem_singleton.1 hy]; intro e; rcases e with e | e; exact h38 e; exact h48 e)
          clear h38 h48
          as_aux_lemma =>
          go_wp2_with (first
    | (apply ldc; exact rfl; exact rfl; exact rfl; exact HC.out _ hs.drop; kernel_rfl)
    | (go_at_call 7; refine (known7 hs).mono ?_; clear hs; rintro e w ⟨rfl, hs⟩)
    | (refine wrap hs ?_; clear hs; intro w hs)
    | (refine wrapn hs ?_; clear hs; intro w hs)
    | (refine wrapd hs ?_; clear hs; intro w hs))
          go_roundw
          case rel => exact ⟨k + 1, by omega, by go_num, HK2, hs⟩
          case measure => simp [intOf]; omega
    · have ek : n = k := by omega
      subst ek
      have HP := Lib.hid (show ∀ x ∈ l, ¬(x = 38 ∨ x = 48) by have := HK.out; rwa [HE.out, List.take_length] at this)
      clear HK
      obtain ⟨x, hx⟩ : ∃ x, apply ⟨fg, bg, fl⟩ (l ++ m) = x := ⟨_, rfl⟩
      have HX := Lib.hid hx
      obtain ⟨xf, xb, xl⟩ := x
      clear hx
      go_upto_region 9 with fail
      go_cut [9] (fun s9 wx => ∃ z9 : Nat, s9 = .pointer (some ⟨z9, 0, none⟩) ∧ sat W (cel z9 25 (atL ⟨xf, xb, xl⟩) :: cel z3 25 (atL ⟨fg, bg, fl⟩) :: old w0 :: H) wx)
      case first =>
        go_region_held3 (fun w' => w'.cell? ⟨z3, 0, none⟩ = some (.int .u32 fg) ∧ w'.cell? ⟨z3, 1, none⟩ = some (.int .u32 bg) ∧ w'.cell? ⟨z3, 2, none⟩ = some (.int .u16 fl)) (first | exact ⟨hs.b0.cel_cell rfl, hs.b0.cel_cell rfl, hs.b0.cel_cell rfl⟩ | exact ⟨hs.b1.cel_cell rfl, hs.b1.cel_cell rfl, hs.b1.cel_cell rfl⟩ | exact ⟨hs.b2.cel_cell rfl, hs.b2.cel_cell rfl, hs.b2.cel_cell rfl⟩ | exact ⟨hs.b3.cel_cell rfl, hs.b3.cel_cell rfl, hs.b3.cel_cell rfl⟩ | exact ⟨hs.drew.b0.cel_cell rfl, hs.drew.b0.cel_cell rfl, hs.drew.b0.cel_cell rfl⟩ | exact ⟨hs.drew.b1.cel_cell rfl, hs.drew.b1.cel_cell rfl, hs.drew.b1.cel_cell rfl⟩ | exact ⟨hs.drew.b2.cel_cell rfl, hs.drew.b2.cel_cell rfl, hs.drew.b2.cel_cell rfl⟩ | exact ⟨hs.drew.b3.cel_cell rfl, hs.drew.b3.cel_cell rfl, hs.drew.b3.cel_cell rfl⟩ | exact ⟨(hs.made (T := 25) (l := Z)).b0.cel_cell rfl, (hs.made (T := 25) (l := Z)).b0.cel_cell rfl, (hs.made (T := 25) (l := Z)).b0.cel_cell rfl⟩ | exact ⟨(hs.made (T := 25) (l := Z)).b1.cel_cell rfl, (hs.made (T := 25) (l := Z)).b1.cel_cell rfl, (hs.made (T := 25) (l := Z)).b1.cel_cell rfl⟩ | exact ⟨(hs.made (T := 25) (l := Z)).b2.cel_cell rfl, (hs.made (T := 25) (l := Z)).b2.cel_cell rfl, (hs.made (T := 25) (l := Z)).b2.cel_cell rfl⟩ | exact ⟨(hs.made (T := 25) (l := Z)).b3.cel_cell rfl, (hs.made (T := 25) (l := Z)).b3.cel_cell rfl, (hs.made (T := 25) (l := Z)).b3.cel_cell rfl⟩ | exact ⟨(hs.made (T := 25) (l := Z)).drew.b0.cel_cell rfl, (hs.made (T := 25) (l := Z)).drew.b0.cel_cell rfl, (hs.made (T := 25) (l := Z)).drew.b0.cel_cell rfl⟩ | exact ⟨(hs.made (T := 25) (l := Z)).drew.b1.cel_cell rfl, (hs.made (T := 25) (l := Z)).drew.b1.cel_cell rfl, (hs.made (T := 25) (l := Z)).drew.b1.cel_cell rfl⟩ | exact ⟨(hs.made (T := 25) (l := Z)).drew.b2.cel_cell rfl, (hs.made (T := 25) (l := Z)).drew.b2.cel_cell rfl, (hs.made (T := 25) (l := Z)).drew.b2.cel_cell rfl⟩ | exact ⟨(hs.made (T := 25) (l := Z)).drew.b3.cel_cell rfl, (hs.made (T := 25) (l := Z)).drew.b3.cel_cell rfl, (hs.made (T := 25) (l := Z)).drew.b3.cel_cell rfl⟩ | exact ⟨(hs.made (T := 3) (l := [])).b0.cel_cell rfl, (hs.made (T := 3) (l := [])).b0.cel_cell rfl, (hs.made (T := 3) (l := [])).b0.cel_cell rfl⟩ | exact ⟨(hs.made (T := 3) (l := [])).b1.cel_cell rfl, (hs.made (T := 3) (l := [])).b1.cel_cell rfl, (hs.made (T := 3) (l := [])).b1.cel_cell rfl⟩ | exact ⟨(hs.made (T := 3) (l := [])).b2.cel_cell rfl, (hs.made (T := 3) (l := [])).b2.cel_cell rfl, (hs.made (T := 3) (l := [])).b2.cel_cell rfl⟩ | exact ⟨(hs.made (T := 3) (l := [])).b3.cel_cell rfl, (hs.made (T := 3) (l := [])).b3.cel_cell rfl, (hs.made (T := 3) (l := [])).b3.cel_cell rfl⟩ | exact ⟨(hs.made (T := 3) (l := [])).drew.b0.cel_cell rfl, (hs.made (T := 3) (l := [])).drew.b0.cel_cell rfl, (hs.made (T := 3) (l := [])).drew.b0.cel_cell rfl⟩ | exact ⟨(hs.made (T := 3) (l := [])).drew.b1.cel_cell rfl, (hs.made (T := 3) (l := [])).drew.b1.cel_cell rfl, (hs.made (T := 3) (l := [])).drew.b1.cel_cell rfl⟩ | exact ⟨(hs.made (T := 3) (l := [])).drew.b2.cel_cell rfl, (hs.made (T := 3) (l := [])).drew.b2.cel_cell rfl, (hs.made (T := 3) (l := [])).drew.b2.cel_cell rfl⟩ | exact ⟨(hs.made (T := 3) (l := [])).drew.b3.cel_cell rfl, (hs.made (T := 3) (l := [])).drew.b3.cel_cell rfl, (hs.made (T := 3) (l := [])).drew.b3.cel_cell rfl⟩ | exact ⟨((hs.made (T := 25) (l := Z)).made (T := 3) (l := [])).drew.b0.cel_cell rfl, ((hs.made (T := 25) (l := Z)).made (T := 3) (l := [])).drew.b0.cel_cell rfl, ((hs.made (T := 25) (l := Z)).made (T := 3) (l := [])).drew.b0.cel_cell rfl⟩ | exact ⟨((hs.made (T := 25) (l := Z)).made (T := 3) (l := [])).drew.b1.cel_cell rfl, ((hs.made (T := 25) (l := Z)).made (T := 3) (l := [])).drew.b1.cel_cell rfl, ((hs.made (T := 25) (l := Z)).made (T := 3) (l := [])).drew.b1.cel_cell rfl⟩ | exact ⟨((hs.made (T := 25) (l := Z)).made (T := 3) (l := [])).drew.b2.cel_cell rfl, ((hs.made (T := 25) (l := Z)).made (T := 3) (l := [])).drew.b2.cel_cell rfl, ((hs.made (T := 25) (l := Z)).made (T := 3) (l := [])).drew.b2.cel_cell rfl⟩ | exact ⟨((hs.made (T := 25) (l := Z)).made (T := 3) (l := [])).drew.b3.cel_cell rfl, ((hs.made (T := 25) (l := Z)).made (T := 3) (l := [])).drew.b3.cel_cell rfl, ((hs.made (T := 25) (l := Z)).made (T := 3) (l := [])).drew.b3.cel_cell rfl⟩ | exact ⟨((hs.made (T := 3) (l := [])).made (T := 25) (l := Z)).drew.b0.cel_cell rfl, ((hs.made (T := 3) (l := [])).made (T := 25) (l := Z)).drew.b0.cel_cell rfl, ((hs.made (T := 3) (l := [])).made (T := 25) (l := Z)).drew.b0.cel_cell rfl⟩ | exact ⟨((hs.made (T := 3) (l := [])).made (T := 25) (l := Z)).drew.b1.cel_cell rfl, ((hs.made (T := 3) (l := [])).made (T := 25) (l := Z)).drew.b1.cel_cell rfl, ((hs.made (T := 3) (l := [])).made (T := 25) (l := Z)).drew.b1.cel_cell rfl⟩ | exact ⟨((hs.made (T := 3) (l := [])).made (T := 25) (l := Z)).drew.b2.cel_cell rfl, ((hs.made (T := 3) (l := [])).made (T := 25) (l := Z)).drew.b2.cel_cell rfl, ((hs.made (T := 3) (l := [])).made (T := 25) (l := Z)).drew.b2.cel_cell rfl⟩ | exact ⟨((hs.made (T := 3) (l := [])).made (T := 25) (l := Z)).drew.b3.cel_cell rfl, ((hs.made (T := 3) (l := [])).made (T := 25) (l := Z)).drew.b3.cel_cell rfl, ((hs.made (T := 3) (l := [])).made (T := 25) (l := Z)).drew.b3.cel_cell rfl⟩ | exact ⟨(hs.made (T := 25) (l := [.int .u32 xf, .int .u32 xb, .int .u16 xl])).b0.cel_cell rfl, (hs.made (T := 25) (l := [.int .u32 xf, .int .u32 xb, .int .u16 xl])).b0.cel_cell rfl, (hs.made (T := 25) (l := [.int .u32 xf, .int .u32 xb, .int .u16 xl])).b0.cel_cell rfl⟩ | exact ⟨(hs.made (T := 25) (l := [.int .u32 xf, .int .u32 xb, .int .u16 xl])).b1.cel_cell rfl, (hs.made (T := 25) (l := [.int .u32 xf, .int .u32 xb, .int .u16 xl])).b1.cel_cell rfl, (hs.made (T := 25) (l := [.int .u32 xf, .int .u32 xb, .int .u16 xl])).b1.cel_cell rfl⟩ | exact ⟨(hs.made (T := 25) (l := [.int .u32 xf, .int .u32 xb, .int .u16 xl])).b2.cel_cell rfl, (hs.made (T := 25) (l := [.int .u32 xf, .int .u32 xb, .int .u16 xl])).b2.cel_cell rfl, (hs.made (T := 25) (l := [.int .u32 xf, .int .u32 xb, .int .u16 xl])).b2.cel_cell rfl⟩ | exact ⟨(hs.made (T := 25) (l := [.int .u32 xf, .int .u32 xb, .int .u16 xl])).b3.cel_cell rfl, (hs.made (T := 25) (l := [.int .u32 xf, .int .u32 xb, .int .u16 xl])).b3.cel_cell rfl, (hs.made (T := 25) (l := [.int .u32 xf, .int .u32 xb, .int .u16 xl])).b3.cel_cell rfl⟩ | exact ⟨(set3 hs.b1 xf xb xl).b0.cel_cell rfl, (set3 hs.b1 xf xb xl).b0.cel_cell rfl, (set3 hs.b1 xf xb xl).b0.cel_cell rfl⟩ | exact ⟨(set3 hs.b1 xf xb xl).b1.cel_cell rfl, (set3 hs.b1 xf xb xl).b1.cel_cell rfl, (set3 hs.b1 xf xb xl).b1.cel_cell rfl⟩ | exact ⟨(set3 hs.b1 xf xb xl).b2.cel_cell rfl, (set3 hs.b1 xf xb xl).b2.cel_cell rfl, (set3 hs.b1 xf xb xl).b2.cel_cell rfl⟩ | exact ⟨(set3 hs.b1 xf xb xl).b3.cel_cell rfl, (set3 hs.b1 xf xb xl).b3.cel_cell rfl, (set3 hs.b1 xf xb xl).b3.cel_cell rfl⟩) (first | (refine sapp0 ((hs.made (T := 3) (l := []))) rfl rfl rfl rfl slty26 (HL.out.reads (((hs.made (T := 3) (l := []))).dropN 2)) ints_ok HLn.out (by omega) (by unfold maxLen; omega) ?_; clear hs; intro a1 c1 w hs; (try rw [alloc_size] at hs)) | (refine sapp0 ((hs.made (T := 3) (l := [])).drew) rfl rfl rfl rfl slty26 (HL.out.reads (((hs.made (T := 3) (l := [])).drew).dropN 2)) ints_ok HLn.out (by omega) (by unfold maxLen; omega) ?_; clear hs; intro a1 c1 w hs; (try rw [alloc_size] at hs)) | (refine sapp0 ((made2 hs 25 Z 3 []).drew) rfl rfl rfl rfl slty26 (HL.out.reads (((made2 hs 25 Z 3 []).drew).dropN 3)) ints_ok HLn.out (by omega) (by unfold maxLen; omega) ?_; clear hs; intro a1 c1 w hs; (try rw [alloc_size] at hs)) | (refine sapp0 ((made2 hs 25 Z 3 [])) rfl rfl rfl rfl slty26 (HL.out.reads (((made2 hs 25 Z 3 [])).dropN 3)) ints_ok HLn.out (by omega) (by unfold maxLen; omega) ?_; clear hs; intro a1 c1 w hs; (try rw [alloc_size] at hs)) | (refine sapp0 ((made2 hs 3 [] 25 Z).drew.b1) rfl rfl rfl rfl slty26 (HL.out.reads (((made2 hs 3 [] 25 Z).drew.b1).dropN 3)) ints_ok HLn.out (by omega) (by unfold maxLen; omega) ?_; clear hs; intro a1 c1 w hs; (try rw [alloc_size] at hs)) | (refine sappr (hs) rfl rfl rfl rfl slty26 (HM.out.reads ((hs).dropN 2)) ints_ok HMn.out (by omega) (by unfold maxLen; omega) ?_; clear hs; intro a1 c1 w hs; rw [ints_append] at hs) | (refine sappr (hs) rfl rfl rfl rfl slty26 (HM.out.reads ((hs).dropN 3)) ints_ok HMn.out (by omega) (by unfold maxLen; omega) ?_; clear hs; intro a1 c1 w hs; rw [ints_append] at hs) | (refine sappr ((hs.made (T := 25) (l := Z)).b1) rfl rfl rfl rfl slty26 (HM.out.reads (((hs.made (T := 25) (l := Z)).b1).dropN 3)) ints_ok HMn.out (by omega) (by unfold maxLen; omega) ?_; clear hs; intro a1 c1 w hs; rw [ints_append] at hs) | (go_at_call 8; refine (apply_t _ HA.out (l ++ m) _ HX.out _ _ _ (SL.of_own (hs)) (hs)).mono ?_; clear hs; rintro e w ⟨rfl, hs⟩; (try (obtain ⟨⟨hz0, hz1, hz2⟩, hz3, hz4, hz5⟩ := zfacts hs.b1))) | (go_at_call 8; refine (apply_t _ HA.out (l ++ m) _ HX.out _ _ _ (SL.of_own ((hs.made (T := 25) (l := Z)).b1)) ((hs.made (T := 25) (l := Z)).b1)).mono ?_; clear hs; rintro e w ⟨rfl, hs⟩; (try (obtain ⟨⟨hz0, hz1, hz2⟩, hz3, hz4, hz5⟩ := zfacts hs.b1))))
        all_goals (go_wp2_with fail; go_meet; first | exact ⟨_, rfl, (hs.made (T := 25) (l := [.int .u32 xf, .int .u32 xb, .int .u16 xl])).b1.drop⟩ | exact ⟨_, rfl, (set3 hs.b1 xf xb xl).b1.drop⟩)
      case rest =>
        obtain ⟨z9, rfl, hs⟩ := hcut
        have hy := apply_wf HA.out l
        obtain ⟨y, hye⟩ : ∃ y, apply ⟨fg, bg, fl⟩ l = y := ⟨_, rfl⟩
        have hyx : apply y m = ⟨xf, xb, xl⟩ := by
          rw [← hye, ← apply_two _ l m (by intro e; rw [e] at HE; exact h0 HE.out) (by intro e; rw [e] at HE2; exact g0 HE2.out) HP.out]; exact HX.out
        have HWX : Hid (wf ⟨xf, xb, xl⟩) := Lib.hid (by rw [← HX.out]; exact apply_wf HA.out _)
        rw [hye] at hy
        obtain ⟨yf, yb, yl⟩ := y
        have HWY := Lib.hid hy
        have HY := Lib.hid hye
        have HYX := Lib.hid hyx
        have HN : Hid (apply ⟨fg, bg, fl⟩ [] = ⟨0, 0, 0⟩) := Lib.hid (apply_nil _)
        clear hy hye hyx
        by_cases hm : may ⟨fg, bg, fl⟩
        · have HMa : Hid (mayB ⟨fg, bg, fl⟩ = true) := Lib.hid (mayB_yes hm)
          have HMx : Hid (mayB ⟨xf, xb, xl⟩ = true) := Lib.hid (mayB_yes (by rw [← HX.out]; exact apply_may HA.out hm _))
          clear hm
          go_wp2
          go_region_held3 (fun w' => w'.cell? ⟨z3, 0, none⟩ = some (.int .u32 fg) ∧ w'.cell? ⟨z3, 1, none⟩ = some (.int .u32 bg) ∧ w'.cell? ⟨z3, 2, none⟩ = some (.int .u16 fl) ∧ w'.cell? ⟨z9, 0, none⟩ = some (.int .u32 xf) ∧ w'.cell? ⟨z9, 1, none⟩ = some (.int .u32 xb) ∧ w'.cell? ⟨z9, 2, none⟩ = some (.int .u16 xl)) (first | exact ⟨hs.b1.cel_cell rfl, hs.b1.cel_cell rfl, hs.b1.cel_cell rfl, hs.b0.cel_cell rfl, hs.b0.cel_cell rfl, hs.b0.cel_cell rfl⟩ | exact ⟨hs.drew.b1.cel_cell rfl, hs.drew.b1.cel_cell rfl, hs.drew.b1.cel_cell rfl, hs.drew.b0.cel_cell rfl, hs.drew.b0.cel_cell rfl, hs.drew.b0.cel_cell rfl⟩) (first | (go_at_call 8; refine (apply_t _ HA.out l _ HY.out _ _ _ HL.out.more.more hs).mono ?_; clear hs; rintro e w ⟨rfl, hs⟩) | (go_at_call 8; refine (apply_t _ HWY.out m _ HYX.out _ _ _ HM.out.more.more hs).mono ?_; clear hs; rintro e w ⟨rfl, hs⟩) | (go_at_call 8; refine (apply_t _ HA.out [] _ HN.out none 0 0 (SL.empty rfl) hs).mono ?_; clear hs; rintro e w ⟨rfl, hs⟩) | (go_at_call 10; refine (may10_t _ HA.out HMa.out hs).mono ?_; clear hs; rintro e w ⟨rfl, hs⟩) | (go_at_call 10; refine (may10_t _ HWX.out HMx.out hs).mono ?_; clear hs; rintro e w ⟨rfl, hs⟩) | (go_at_call 7; refine (known7 hs).mono ?_; clear hs; rintro e w ⟨rfl, hs⟩) | (go_at_call 8; refine (apply_t _ HA.out l _ HY.out _ _ _ HL.out.more.more hs.drew).mono ?_; clear hs; rintro e w ⟨rfl, hs⟩) | (go_at_call 8; refine (apply_t _ HWY.out m _ HYX.out _ _ _ HM.out.more.more hs.drew).mono ?_; clear hs; rintro e w ⟨rfl, hs⟩) | (go_at_call 8; refine (apply_t _ HA.out [] _ HN.out none 0 0 (SL.empty rfl) hs.drew).mono ?_; clear hs; rintro e w ⟨rfl, hs⟩) | (go_at_call 10; refine (may10_t _ HA.out HMa.out hs.drew).mono ?_; clear hs; rintro e w ⟨rfl, hs⟩) | (go_at_call 10; refine (may10_t _ HWX.out HMx.out hs.drew).mono ?_; clear hs; rintro e w ⟨rfl, hs⟩) | (go_at_call 7; refine (known7 hs.drew).mono ?_; clear hs; rintro e w ⟨rfl, hs⟩))
          all_goals
            go_wp2
            go_ret
            exact ⟨rfl, hs.drop.drop⟩
        · have HMa : Hid (mayB ⟨fg, bg, fl⟩ = false) := Lib.hid (mayB_no hm)
          clear hm
          go_wp2_with (first
    | ((try simp only [Act.put, List.setIfInBounds_toArray, List.set_cons_succ, List.set_cons_zero]); refine region_sat hs (by kernel_rfl) (by kernel_rfl) ?_; intro X f hne hf hcl; (repeat (first | (apply ldsq 3 (fun x => (hf x).b0); exact rfl; exact rfl; exact rfl; kernel_rfl; exact rfl; exact rfl; (try simp only [Act.put, List.setIfInBounds_toArray, List.set_cons_succ, List.set_cons_zero])) | (apply ldsq 3 (fun x => (hf x).b1); exact rfl; exact rfl; exact rfl; kernel_rfl; exact rfl; exact rfl; (try simp only [Act.put, List.setIfInBounds_toArray, List.set_cons_succ, List.set_cons_zero])) | (go_big_quiet_want; go_big_quiet_op; refine ⟨_, fun x => (apply_t _ HA.out l _ HY.out _ _ _ HL.out.more.more (hf x)).mono (by rintro e w' ⟨rfl, h'⟩; exact ⟨rfl, hcl _ h'⟩), ?_⟩; go_big_quiet_on) | (go_big_quiet_want; go_big_quiet_op; refine ⟨_, fun x => (apply_t _ HWY.out m _ HYX.out _ _ _ HM.out.more.more (hf x)).mono (by rintro e w' ⟨rfl, h'⟩; exact ⟨rfl, hcl _ h'⟩), ?_⟩; go_big_quiet_on) | (go_big_quiet_want; go_big_quiet_op; refine ⟨_, fun x => (apply_t _ HA.out [] _ HN.out none 0 0 (SL.empty rfl) (hf x)).mono (by rintro e w' ⟨rfl, h'⟩; exact ⟨rfl, hcl _ h'⟩), ?_⟩; go_big_quiet_on) | (go_big_quiet_want; go_big_quiet_op; refine ⟨_, fun x => (may10_t _ HA.out HMa.out (hf x)).mono (by rintro e w' ⟨rfl, h'⟩; exact ⟨rfl, hcl _ h'⟩), ?_⟩; go_big_quiet_on) | (go_big_quiet_want; go_big_quiet_op; refine ⟨_, fun x => (known7 (hf x)).mono (by rintro e w' ⟨rfl, h'⟩; exact ⟨rfl, hcl _ h'⟩), ?_⟩; go_big_quiet_on) | go_big_quiet_step (fail))); refine wpQuiet_nil ?_; clear hcl hf hne hs f X; intro w hs)
    | (refine wrap hs ?_; clear hs; intro w hs)
    | (refine wrapn hs ?_; clear hs; intro w hs)
    | (refine wrapd hs ?_; clear hs; intro w hs))
          go_ret
          exact ⟨rfl, hs.drop.drop⟩
theorem sl_of_row {w0 : World} {a : Option Addr} {len cap : Nat} {zs : List Int} (h : IsRow .i64 w0 a len cap zs) : ∃ l, l.length = len ∧ ∀ (W : World) (H : List HProp), SL W (old w0 :: H) a len cap l := by
  unfold SL
  rcases h with ⟨rfl, rfl, rfl, rfl⟩ | ⟨x, rfl, hl, hm, hz, hc, hw⟩
  · exact ⟨[], rfl, fun W H => ⟨rfl, Nat.le_refl _, Nat.zero_le _, fun _ _ => ⟨Nat.zero_le _, none, 0, rfl, fun h => (h rfl).elim⟩⟩⟩
  · refine ⟨zs.take len, by simp; omega, fun W H => ⟨by simp; omega, hl, hm, fun w' hs => ?_⟩⟩
    have hlen : (zs.take len).length = len := by simp; omega
    refine ⟨by rw [List.length_map]; omega, some x, cap, by rw [List.length_map, hlen], fun hne => ?_⟩
    have hp : 0 < zs.length := by
      cases zs with
      | nil => exact (hne (by simp)).elim
      | cons _ _ => simp
    have h0 := hc 0 hp
    obtain ⟨b, off, spot⟩ := x
    have hspot : spot = none := by simpa [Addr.add] using World.cell?_spot h0
    subst hspot
    refine ⟨b, off, rfl, fun i u hu => ?_⟩
    have hi : i < zs.length := by
      have := (List.getElem?_eq_some_iff.1 hu).1; rw [List.length_map, hlen] at this; omega
    have := hc i hi
    rw [add_none] at this
    rw [hs.old_cell this, ← hu]
    have hi2 : i < len := by have := (List.getElem?_eq_some_iff.1 hu).1; rwa [List.length_map, hlen] at this
    simp [List.getElem?_take, hi2, hi]
theorem parts_top {x y z : Int} (w0 : (Lit.int .u32 x).wf = true) (w1 : (Lit.int .u32 y).wf = true) (w2 : (Lit.int .u16 z).wf = true) (ad : Option Addr) (len cap : Nat) (zs : List Int) (ad2 : Option Addr) (len2 cap2 : Nat) (zs2 : List Int) (w : World) (hr : IsRow .i64 w ad len cap zs) (hr2 : IsRow .i64 w ad2 len2 cap2 zs2) :
    Calls Try.prog 5 #[.agg #[.int .u32 x, .int .u32 y, .int .u16 z], .slice ad len cap, .slice ad2 len2 cap2] w fun e w' => e = .returned (.bool true) ∧ Below w.heap.size w w' := by
  obtain ⟨l, hl, hsl⟩ := sl_of_row hr
  obtain ⟨l2, hl2, hsl2⟩ := sl_of_row hr2
  have t1 := hsl w []
  have t2 := hsl2 w []
  by_cases h : 1000 < len ∨ 1000 < len2 ∨ len = 0 ∨ len2 = 0
  · exact (parts_guard ⟨x, y, z⟩ ad ad2 len cap len2 cap2 h (by unfold SL at t1; omega) (by unfold SL at t2; omega) (sat.start w)).mono fun _ _ ⟨he, hs⟩ => ⟨he, hs.below⟩
  · exact (parts_walk ⟨x, y, z⟩ (wf_of w0 w1 w2) w ad ad2 len cap len2 cap2 l l2 (by omega) (by omega) (by omega) (by omega) t1 t2 (sat.start w)).mono fun _ _ ⟨he, hs⟩ => ⟨he, hs.below⟩
end Go.Proofs.Ytkmbgnonpnhfcaa
