import Derived.Test.YtaajgkccannjlaaT10
import Derived.Test.YtaajgkccannjlaaSe
namespace Go.Proofs.Ytaajgkccannjlaa
open Go.RowKit Go.Mem Go.Utf
variable {W w : World} {H : List HProp}
theorem enc_pos (r : Int) (h0 : -2147483648 ≤ r) (h1 : r < 2147483648) : ∀ x ∈ enc r, 0 ≤ x ∧ x < 256 := by
  intro x hx
  rcases enc_cases r with ⟨hc, he⟩ | ⟨hc, he⟩ | ⟨hc, he⟩ | ⟨hc, he⟩ | ⟨hc, he⟩
  all_goals
    rw [he] at hx
    simp only [List.mem_cons, List.not_mem_nil, or_false] at hx
    omega
theorem cvIq {P : Program} {o : Oper} {ops : Array Oper} {rest : List Oper} {a : Act} {X : Type} {f : X → World} {Q : Act → Prop} {src dst e : TypeId} {x : Operand} {v : Value} (l : List Int) (hb : ∀ x ∈ l, 0 ≤ x) (ho : o.op = .convert src dst x) (hw : Region.wanted o (yielded ops a.tmps) = true) (hx : a.eval x = v)
    (hs : P.underlying src = some (.slice e)) (he : P.underlying e = some (.int .u8)) (hd : P.underlying dst = some .string) (hr : ∀ x, Reads (f x) v (bytes l))
    (h : wpQuiet P ops (fun w' => ∃ x : X, w' = f x) Q rest (a.put o.dst (.string (sI l)))) : wpQuiet P ops (fun w' => ∃ x : X, w' = f x) Q (o :: rest) a :=
  cvsq ho hw hx hs he hd (fun x => bytes_nums hb ▸ hr x) h
attribute [local irreducible] World.setCell World.alloc World.drew World.drewN Calls sat cel own blk old wpQuiet first size begins more SK val head value say BR EB run feed dec enc sI
theorem renc_t (r : Int) (out : List Int) (h : enc r = out) (h0 : -2147483648 ≤ r) (h1 : r < 2147483648) (hs : sat W H w) : Calls Try.prog 14 #[.int .i32 r] w (EB W H out) := h ▸ encode14 r h0 h1 hs
set_option maxHeartbeats 4000000 in
theorem encodes_walk (r : Int) (h0 : -2147483648 ≤ r) (h1 : r < 2147483648) (hs : sat W H w) : Calls Try.prog 4 #[.int .i32 r] w fun e w' => e = .returned (.bool true) ∧ sat W H w' := by
  obtain ⟨out, ho⟩ : ∃ out, enc r = out := ⟨_, rfl⟩
  have HO := Lib.hid ho
  have HP : Hid (∀ x ∈ out, 0 ≤ x) := Lib.hid (fun x hx => (enc_pos r h0 h1 x (by rw [ho]; exact hx)).1)
  clear ho
  have q1 := str_eq (rfl : sI out = sI out)
  go_enter Try.func4, Try.ntmps4
  go_wp2_with (first
    | (refine wrap hs ?_; clear hs; intro w hs)
    | (refine wrapn hs ?_; clear hs; intro w hs)
    | (refine wrapd hs ?_; clear hs; intro w hs))
  refine region_mix [([0, 3], 1), ([2], 4), ([5, 6, 7], 8)] [9, 10] hs (fun _ h => h) (by kernel_rfl) (by kernel_rfl) (fun _ _ _ _ _ h => h) ?_
  simp only [segs, nths, nth, List.append_nil, List.nil_append, List.cons_append]
  refine seg_reads ⟨_, hs⟩ (fun _ h => h) ?_; intro X f hne hf hcl; (try simp only [Act.put, List.setIfInBounds_toArray, List.set_cons_succ, List.set_cons_zero]); (repeat (first | (apply cvIq out HP.out; exact rfl; exact rfl; exact rfl; exact Try.underlying22; exact Try.underlying5; exact Try.underlying9; exact fun x => (by first | exact (hf x).own_reads.1 | exact (hf x).b1.own_reads.1); (try simp only [Act.put, List.setIfInBounds_toArray, List.set_cons_succ, List.set_cons_zero])) | go_big_quiet_step (fail))); refine wpQuiet_nil ?_; clear hcl hf hne hs f X; intro w hs
  go_wp2_with (first
    | (go_at_call 13; refine (encode_t r out HO.out h0 h1 hs).mono ?_; clear hs; rintro e w hb; obtain ⟨a1, c1, rfl, hs⟩ := hb.elim; clear hb; generalize out.length = n1 at hs ⊢)
    | (go_at_call 14; refine (renc_t r out HO.out h0 h1 hs).mono ?_; clear hs; rintro e w hb; obtain ⟨a2, c2, rfl, hs⟩ := hb.elim; clear hb; generalize out.length = n2 at hs ⊢)
    | (go_at_call 9; refine (known9 hs).mono ?_; clear hs; rintro e w ⟨rfl, hs⟩)
    | (refine wrap hs ?_; clear hs; intro w hs)
    | (refine wrapn hs ?_; clear hs; intro w hs)
    | (refine wrapd hs ?_; clear hs; intro w hs))
  refine seg_on hs (by first | exact fun _ h => h | exact fun _ h => h.drop | exact fun _ h => h.drop.drop | exact fun _ h => h.drop.drop.drop) (fun _ h => h) ?_
  refine seg_reads ⟨_, hs⟩ (fun _ h => h) ?_; intro X f hne hf hcl; (try simp only [Act.put, List.setIfInBounds_toArray, List.set_cons_succ, List.set_cons_zero]); (repeat (first | (apply cvIq out HP.out; exact rfl; exact rfl; exact rfl; exact Try.underlying22; exact Try.underlying5; exact Try.underlying9; exact fun x => (by first | exact (hf x).own_reads.1 | exact (hf x).b1.own_reads.1); (try simp only [Act.put, List.setIfInBounds_toArray, List.set_cons_succ, List.set_cons_zero])) | go_big_quiet_step (fail))); refine wpQuiet_nil ?_; clear hcl hf hne hs f X; intro w hs
  go_wp2_with (first
    | (go_at_call 13; refine (encode_t r out HO.out h0 h1 hs).mono ?_; clear hs; rintro e w hb; obtain ⟨a1, c1, rfl, hs⟩ := hb.elim; clear hb; generalize out.length = n1 at hs ⊢)
    | (go_at_call 14; refine (renc_t r out HO.out h0 h1 hs).mono ?_; clear hs; rintro e w hb; obtain ⟨a2, c2, rfl, hs⟩ := hb.elim; clear hb; generalize out.length = n2 at hs ⊢)
    | (go_at_call 9; refine (known9 hs).mono ?_; clear hs; rintro e w ⟨rfl, hs⟩)
    | (refine wrap hs ?_; clear hs; intro w hs)
    | (refine wrapn hs ?_; clear hs; intro w hs)
    | (refine wrapd hs ?_; clear hs; intro w hs))
  refine seg_on hs (by first | exact fun _ h => h | exact fun _ h => h.drop | exact fun _ h => h.drop.drop | exact fun _ h => h.drop.drop.drop) (fun _ h => h) ?_
  refine seg_reads ⟨_, hs⟩ (fun _ h => h) ?_; intro X f hne hf hcl; (try simp only [Act.put, List.setIfInBounds_toArray, List.set_cons_succ, List.set_cons_zero]); (repeat (first | (apply cvIq out HP.out; exact rfl; exact rfl; exact rfl; exact Try.underlying22; exact Try.underlying5; exact Try.underlying9; exact fun x => (by first | exact (hf x).own_reads.1 | exact (hf x).b1.own_reads.1); (try simp only [Act.put, List.setIfInBounds_toArray, List.set_cons_succ, List.set_cons_zero])) | go_big_quiet_step (fail))); refine wpQuiet_nil ?_; clear hcl hf hne hs f X; intro w hs
  go_wp2_with (first
    | (go_at_call 13; refine (encode_t r out HO.out h0 h1 hs).mono ?_; clear hs; rintro e w hb; obtain ⟨a1, c1, rfl, hs⟩ := hb.elim; clear hb; generalize out.length = n1 at hs ⊢)
    | (go_at_call 14; refine (renc_t r out HO.out h0 h1 hs).mono ?_; clear hs; rintro e w hb; obtain ⟨a2, c2, rfl, hs⟩ := hb.elim; clear hb; generalize out.length = n2 at hs ⊢)
    | (go_at_call 9; refine (known9 hs).mono ?_; clear hs; rintro e w ⟨rfl, hs⟩)
    | (refine wrap hs ?_; clear hs; intro w hs)
    | (refine wrapn hs ?_; clear hs; intro w hs)
    | (refine wrapd hs ?_; clear hs; intro w hs))
  refine seg_on hs (by first | exact fun _ h => h | exact fun _ h => h.drop | exact fun _ h => h.drop.drop | exact fun _ h => h.drop.drop.drop) (fun _ h => h) ?_
  refine seg_last ⟨_, hs⟩ (fun _ h => h) ?_; intro X f hne hf hcl; (try simp only [Act.put, List.setIfInBounds_toArray, List.set_cons_succ, List.set_cons_zero]); (repeat (first | (apply cvIq out HP.out; exact rfl; exact rfl; exact rfl; exact Try.underlying22; exact Try.underlying5; exact Try.underlying9; exact fun x => (by first | exact (hf x).own_reads.1 | exact (hf x).b1.own_reads.1); (try simp only [Act.put, List.setIfInBounds_toArray, List.set_cons_succ, List.set_cons_zero])) | go_big_quiet_step (fail))); refine wpQuiet_nil ?_; clear hcl hf hne hs f X; intro w hs
  go_wp2_with (first
    | (refine wrap hs ?_; clear hs; intro w hs)
    | (refine wrapn hs ?_; clear hs; intro w hs)
    | (refine wrapd hs ?_; clear hs; intro w hs))
  go_ret
  exact ⟨rfl, hs.drop.drop⟩
theorem i32_bd {r : Int} (h : (Lit.int .i32 r).wf = true) : -2147483648 ≤ r ∧ r < 2147483648 := by
  simp [Lit.wf, IntKind.min, IntKind.max, IntKind.signed, IntKind.bits] at h
  omega
theorem encodes_top (r : Int) (hr : (Lit.int .i32 r).wf = true) (w : World) : Calls Try.prog 4 #[.int .i32 r] w fun e w' => e = .returned (.bool true) ∧ Below w.heap.size w w' :=
  (encodes_walk r (i32_bd hr).1 (i32_bd hr).2 (sat.start w)).mono fun _ _ ⟨he, hs⟩ => ⟨he, hs.below⟩
end Go.Proofs.Ytaajgkccannjlaa
