/- Law 04: the acts in memory; the parser's small functions. -/
import Derived.Test.YtojgdpccjlgmiaaK2
namespace Go.Proofs.Ytojgdpccjlgmiaa
open Go.RowKit Go.Mem Go.Parse
variable {W w : World} {H : List HProp}
section
variable {A0 A1 v x y z : Value} {L : PL} {B : List Value}
theorem pm_c0 : (pm A0 A1 L B)[0]? = some A0 := rfl
theorem pm_c1 : (pm A0 A1 L B)[1]? = some A1 := rfl
theorem pm_c36 (h : L.l.length = 32) : (pm A0 A1 L (x :: B))[36]? = some x := by simp [pm, h, List.getElem?_append]
theorem pm_c37 (h : L.l.length = 32) : (pm A0 A1 L (x :: y :: B))[37]? = some y := by simp [pm, h, List.getElem?_append]
theorem pm_c38 (h : L.l.length = 32) : (pm A0 A1 L (x :: y :: z :: B))[38]? = some z := by simp [pm, h, List.getElem?_append]
theorem pm_s0 : (pm A0 A1 L B)[0]?.isSome = true := rfl
theorem pm_s1 : (pm A0 A1 L B)[1]?.isSome = true := rfl
theorem pm_s36 (h : L.l.length = 32) : (pm A0 A1 L (x :: B))[36]?.isSome = true := by rw [pm_c36 h]; rfl
theorem pm_s37 (h : L.l.length = 32) : (pm A0 A1 L (x :: y :: B))[37]?.isSome = true := by rw [pm_c37 h]; rfl
theorem pm_s38 (h : L.l.length = 32) : (pm A0 A1 L (x :: y :: z :: B))[38]?.isSome = true := by rw [pm_c38 h]; rfl
theorem pm_set0 : (pm A0 A1 L B).set 0 v = pm v A1 L B := rfl
theorem pm_set1 : (pm A0 A1 L B).set 1 v = pm A0 v L B := rfl
theorem pm_set36 (h : L.l.length = 32) : (pm A0 A1 L (x :: B)).set 36 v = pm A0 A1 L (v :: B) := by simp [pm, List.set_append, h]
theorem pm_set37 (h : L.l.length = 32) : (pm A0 A1 L (x :: y :: B)).set 37 v = pm A0 A1 L (x :: v :: B) := by simp [pm, List.set_append, h]
theorem pm_set38 (h : L.l.length = 32) : (pm A0 A1 L (x :: y :: z :: B)).set 38 v = pm A0 A1 L (x :: y :: v :: B) := by simp [pm, List.set_append, h]
end
def ints (l : List Int) : List Value := l.map (Value.int .i64)
def runes (l : List Int) : List Value := l.map (Value.int .i32)
theorem runes_len (l : List Int) : (runes l).length = l.length := List.length_map _
theorem runes_snoc (l : List Int) (r : Int) : runes l ++ [.int .i32 r] = runes (l ++ [r]) := by simp [runes]
/-- The parser. -/
def prs (b : Nat) (p : Ps) : HProp := fun h => ∃ aI cI aT cT, star (cel b 40 (pm (.int .u8 p.st) (.int .i32 p.pr) p.par [.slice aI p.inter.length cI, .bool p.over, .slice aT p.text.length cT]))
  (star (own 21 1 (.slice aI p.inter.length cI) p.inter.length (runes p.inter)) (own 21 1 (.slice aT p.text.length cT) p.text.length (runes p.text))) h
theorem sat.prs_open {b : Nat} {p : Ps} {nI nT : Nat} (hI : p.inter.length = nI) (hT : p.text.length = nT) (hs : sat W (prs b p :: H) w) : ∃ aI cI aT cT, sat W (cel b 40 (pm (.int .u8 p.st) (.int .i32 p.pr) p.par [.slice aI nI cI, .bool p.over, .slice aT nT cT]) :: own 21 1 (.slice aI nI cI) nI (runes p.inter) :: own 21 1 (.slice aT nT cT) nT (runes p.text) :: H) w := by
  subst hI hT
  obtain ⟨aI, hs⟩ := hs.ex
  obtain ⟨cI, hs⟩ := hs.ex
  obtain ⟨aT, hs⟩ := hs.ex
  obtain ⟨cT, hs⟩ := hs.ex
  have hs := hs.unstar.b1.unstar.b2
  exact ⟨aI, cI, aT, cT, hs⟩
theorem sat.prs_close {b : Nat} {p : Ps} {aI aT : Option Addr} {cI cT nI nT : Nat} (hI : p.inter.length = nI) (hT : p.text.length = nT) (hs : sat W (cel b 40 (pm (.int .u8 p.st) (.int .i32 p.pr) p.par [.slice aI nI cI, .bool p.over, .slice aT nT cT]) :: own 21 1 (.slice aI nI cI) nI (runes p.inter) :: own 21 1 (.slice aT nT cT) nT (runes p.text) :: H) w) : sat W (prs b p :: H) w := by
  subst hI hT
  have hs := hs.b2.b2.star.b1.star
  exact hs.imp fun _ h => ⟨aI, cI, aT, cT, h⟩
/-! ## Acts -/
def acC (x : Ac) (vP vI vT : Value) : List Value := [.int .u8 x.kind, .int .i32 x.r, .int .i32 x.priv, vP, vI, .int .i32 x.final, vT]
def acO (x : Ac) (c : List Value) : HProp := fun h => ∃ aP cP aI cI aT cT, c = acC x (.slice aP x.params.length cP) (.slice aI x.inter.length cI) (.slice aT x.text.length cT) ∧
  star (own 3 1 (.slice aP x.params.length cP) x.params.length (ints x.params)) (star (own 21 1 (.slice aI x.inter.length cI) x.inter.length (runes x.inter)) (own 21 1 (.slice aT x.text.length cT) x.text.length (runes x.text))) h
def acl : List Ac → List (List Value) → HProp
  | [], [] => fun _ => True
  | x :: l, c :: L => star (acO x c) (acl l L)
  | _, _ => fun _ => False
def acs (v : Value) (l : List Ac) : HProp := fun h => ∃ L : List (List Value), star (own 33 7 v l.length L.flatten) (acl l L) h
theorem sat.tt (hs : sat W H w) : sat W ((fun _ => True) :: H) w := ⟨hs.1, hs.2.1, hs.2.2.1, fun _ => none, _, fun _ => .inl rfl, fun _ _ e => by simp at e, Hp.sub_refl _, trivial, hs.2.2.2⟩
theorem sat.acl_one {x : Ac} {aP aI aT : Option Addr} {cP cI cT : Nat} (hs : sat W (own 3 1 (.slice aP x.params.length cP) x.params.length (ints x.params) :: own 21 1 (.slice aI x.inter.length cI) x.inter.length (runes x.inter) :: own 21 1 (.slice aT x.text.length cT) x.text.length (runes x.text) :: H) w) :
    sat W (acl [x] [acC x (.slice aP x.params.length cP) (.slice aI x.inter.length cI) (.slice aT x.text.length cT)] :: H) w := by
  have hs := hs.b2.b2.star.b1.star
  have h2 := hs.imp (B := acO x (acC x (.slice aP x.params.length cP) (.slice aI x.inter.length cI) (.slice aT x.text.length cT))) fun _ h => ⟨aP, cP, aI, cI, aT, cT, rfl, h⟩
  exact (sat.tt h2).b1.star
theorem sat.acs_nil (hs : sat W H w) : sat W (acs (.slice none 0 0) [] :: H) w :=
  ((sat.tt hs).own_nil 33 7).star.imp fun _ h => ⟨[], h⟩
theorem sat.acs_mk {v : Value} {l : List Ac} {L : List (List Value)} {xs : List Value} (e : xs = L.flatten) (hs : sat W (own 33 7 v l.length xs :: acl l L :: H) w) : sat W (acs v l :: H) w := by
  subst e
  exact hs.star.imp fun _ h => ⟨L, h⟩
theorem sat.acs_open {v : Value} {l : List Ac} (hs : sat W (acs v l :: H) w) : ∃ L : List (List Value), sat W (own 33 7 v l.length L.flatten :: acl l L :: H) w :=
  let ⟨L, h⟩ := hs.ex; ⟨L, h.unstar⟩
theorem sat.acl_app : ∀ {l1 : List Ac} {L1 : List (List Value)} {l2 : List Ac} {L2 : List (List Value)} {H : List HProp}, sat W (acl l1 L1 :: acl l2 L2 :: H) w → sat W (acl (l1 ++ l2) (L1 ++ L2) :: H) w
  | [], [], _, _, _, hs => hs.drop
  | [], _ :: _, _, _, _, hs => by
    have hs : sat W (pur False :: _) w := hs
    exact hs.pure.elim
  | _ :: _, [], _, _, _, hs => by
    have hs : sat W (pur False :: _) w := hs
    exact hs.pure.elim
  | x :: l, c :: L, _, _, _, hs => by
    have hs : sat W (star (acO x c) (acl l L) :: _) w := hs
    have hs := hs.unstar
    have h2 := sat.acl_app (hs.b1.b2.b1)
    exact h2.b1.star
/-- A literal of one act, without numbers, marks, text. -/
theorem sat.acs_lit {z : Nat} {x : Ac} (hp : x.params = []) (hi : x.inter = []) (ht : x.text = []) (hs : sat W (cel z 33 (acC x (.slice none 0 0) (.slice none 0 0) (.slice none 0 0)) :: H) w) : sat W (acs (.slice (some ⟨z, 0, none⟩) 1 1) [x] :: H) w := by
  have h1 := (sat.own_mk (n := 1) (cap := 1) (size := 7) hs (Nat.le_refl _) (by decide) rfl)
  have h2 := ((h1.own_nil 21 1).own_nil 21 1).own_nil 3 1
  have h3 := sat.acl_one (x := x) (aP := none) (aI := none) (aT := none) (cP := 0) (cI := 0) (cT := 0) (H := own 33 7 (.slice (some ⟨z, 0, none⟩) 1 1) 1 (acC x (.slice none 0 0) (.slice none 0 0) (.slice none 0 0)) :: H) (w := w) (W := W) (by rw [hp, hi, ht]; exact h2)
  rw [hp, hi, ht] at h3
  exact sat.acs_mk (l := [x]) (L := [acC x (.slice none 0 0) (.slice none 0 0) (.slice none 0 0)]) (by simp) h3.b1
theorem slty26 : SlTy Try.prog 26 33 7 96 := ⟨Try.underlying26, by obtain ⟨i0, hi, hz0, hz1, hz2⟩ := info_parts (show (Try.prog.info? 33).map (fun i => (i.zero, i.size, i.bytes)) = some (some (.agg #[.int .u8 0, .int .i32 0, .int .i32 0, .slice none 0 0, .slice none 0 0, .int .i32 0, .slice none 0 0]), 7, 96) by kernel_rfl); exact ⟨i0, _, hi, hz0, hz1, hz2, rfl⟩, by decide⟩
attribute [local irreducible] World.setCell World.setCells World.alloc World.drew World.drewN Calls sat cel own blk old wpQuiet wpList pm values digit next acs
variable {b : Nat} {st pr : Int} {L : PL} {I T : List Int} {ov : Bool} {p : Ps} {H : List HProp}
theorem exec27 {r : Int} (hs : sat W H w) : Calls Try.prog 27 #[.int .i32 r] w fun e w' => ∃ a c, e = .returned (.slice a 1 c) ∧ sat W (acs (.slice a 1 c) (exec r) :: H) w' := by
  go_enter Try.func27, Try.ntmps27
  go_wp2_with (first | ((with_reducible refine isl ?_); first | ((with_reducible refine wrap hs ?_); clear hs; intro w hs) | ((with_reducible refine wrapn hs ?_); clear hs; intro w hs) | ((with_reducible refine wrapd hs ?_); clear hs; intro w hs)))
  go_ret
  exact ⟨_, _, rfl, sat.acs_lit (x := ⟨2, r, 0, [], [], 0, []⟩) rfl rfl rfl hs.made⟩
theorem ground15 {r : Int} {v : Value} (hs : sat W H w) : Calls Try.prog 15 #[v, .int .i32 r] w fun e w' => ∃ a c, e = .returned (.slice a 1 c) ∧ sat W (acs (.slice a 1 c) (if r < 32 then exec r else prnt r) :: H) w' := by
  by_cases h : r < 32
  · rw [if_pos h]
    go_enter Try.func15, Try.ntmps15
    go_wp2_with (first | (go_at_call 27; refine (exec27 hs).mono ?_; clear hs; rintro e w ⟨a, c, rfl, hs⟩) | ((with_reducible refine isl ?_); first | ((with_reducible refine wrap hs ?_); clear hs; intro w hs) | ((with_reducible refine wrapn hs ?_); clear hs; intro w hs) | ((with_reducible refine wrapd hs ?_); clear hs; intro w hs)))
    go_ret
    exact ⟨_, _, rfl, hs⟩
  · rw [if_neg h]
    go_enter Try.func15, Try.ntmps15
    go_wp2_with (first | ((with_reducible refine isl ?_); first | ((with_reducible refine wrap hs ?_); clear hs; intro w hs) | ((with_reducible refine wrapn hs ?_); clear hs; intro w hs) | ((with_reducible refine wrapd hs ?_); clear hs; intro w hs)))
    go_ret
    exact ⟨_, _, rfl, sat.acs_lit (x := ⟨1, r, 0, [], [], 0, []⟩) rfl rfl rfl hs.made⟩
theorem nothing20 {r : Int} {v : Value} (hs : sat W H w) : Calls Try.prog 20 #[v, .int .i32 r] w fun e w' => e = .returned (.slice none 0 0) ∧ sat W H w' := by
  go_enter Try.func20, Try.ntmps20
  go_wp2_with fail
  go_ret
  exact ⟨rfl, hs⟩
theorem in26 {r x y : Int} (hs : sat W H w) : Calls Try.prog 26 #[.int .i32 r, .int .i32 x, .int .i32 y] w fun e w' => e = .returned (.bool (decide (x ≤ r ∧ r ≤ y))) ∧ sat W H w' := by
  by_cases h1 : x ≤ r
  · by_cases h2 : r ≤ y
    · rw [decide_eq_true (⟨h1, h2⟩ : x ≤ r ∧ r ≤ y)]
      go_enter Try.func26, Try.ntmps26
      go_wp2_with fail
      go_ret
      exact ⟨ret_bool (by simp), hs⟩
    · rw [decide_eq_false (by omega : ¬ (x ≤ r ∧ r ≤ y))]
      go_enter Try.func26, Try.ntmps26
      go_wp2_with fail
      go_ret
      exact ⟨ret_bool (by simp), hs⟩
  · rw [decide_eq_false (by omega : ¬ (x ≤ r ∧ r ≤ y))]
    go_enter Try.func26, Try.ntmps26
    go_wp2_with fail
    go_ret
    exact ⟨ret_bool (by simp), hs⟩
/-- slices.Clone of one's own. -/
theorem clone24 {a : Option Addr} {n c : Nat} {l : List Int} (hl : l.length = n) (hn : n ≤ 2000) (hs : sat W (own 21 1 (.slice a n c) n (runes l) :: H) w) :
    Calls Try.prog 24 #[.slice a n c] w fun e w' => ∃ a' c', e = .returned (.slice a' n c') ∧ sat W (own 21 1 (.slice a' n c') n (runes l) :: own 21 1 (.slice a n c) n (runes l) :: H) w' := by
  have HL : Hid ((runes l).length = n) := Lib.hid (by rw [runes_len, hl])
  have HR : Hid (∀ u ∈ runes l, u.oneCell' = true) := Lib.hid (by unfold runes; exact ints_ok)
  rcases hs.own_cases.2 with ⟨e, rfl, h2⟩ | ⟨g, cap, cur, e, _⟩
  · cases e
    clear hl
    have hnil := Go.Lib.run_eql_slice_nil (P := Try.prog) w 22 21 none 0 0 0 0 Try.underlying22
    go_enter Try.func24, Try.ntmps24
    go_wp2_with fail
    go_ret
    refine ⟨none, 0, rfl, ?_⟩
    rw [h2] at hs ⊢
    exact hs.own_nil 21 1
  · cases e
    clear hl
    have hnil := Go.Lib.run_eql_slice_nil (P := Try.prog) w 22 21 (some ⟨g, 0, none⟩) n c 0 0 Try.underlying22
    go_enter Try.func24, Try.ntmps24
    go_wp2_with (first | ((with_reducible refine isl ?_); first | ((with_reducible apply appf hs); exact rfl; exact rfl; exact rfl; exact rfl; exact slty22; exact hs.b1.own_reads.1; exact HR.out; exact HL.out; omega; clear hs; intro a5 c5 w hs) | ((with_reducible refine wrap hs ?_); clear hs; intro w hs) | ((with_reducible refine wrapn hs ?_); clear hs; intro w hs) | ((with_reducible refine wrapd hs ?_); clear hs; intro w hs)))
    go_ret
    exact ⟨_, _, rfl, hs⟩
end Go.Proofs.Ytojgdpccjlgmiaa
