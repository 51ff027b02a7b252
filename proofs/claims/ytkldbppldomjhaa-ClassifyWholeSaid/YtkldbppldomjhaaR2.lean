/- Law 16: runs in memory; the classifier in memory. -/
import Derived.Test.YtkldbppldomjhaaR1
import Derived.Test.YtkldbppldomjhaaE5
import Derived.Test.YtkldbppldomjhaaF3
import Derived.Test.YtkldbppldomjhaaSu
import Derived.Test.YtkldbppldomjhaaSq
import Derived.Test.YtkldbppldomjhaaSy
import Derived.Test.YtkldbppldomjhaaSv
import Derived.Deep.Cut
import Derived.Deep.CutRange
import Derived.Deep.DeepCutAuto
namespace Go.Proofs.Ytkldbppldomjhaa
open Go.RowKit Go.Mem Go.Typed Go.Front Go.Classify
variable {W w : World} {H : List HProp}
def runes (l : List Int) : List Value := l.map (Value.int .i32)
theorem runes_len (l : List Int) : (runes l).length = l.length := List.length_map _
theorem runes_snoc (l : List Int) (r : Int) : runes l ++ [.int .i32 r] = runes (l ++ [r]) := by simp [runes]
def rnC (x : Run) (vT : Value) : List Value := [.int .u8 x.kind, .int .u64 x.frm, .int .u64 x.to_, vT]
def rnO (x : Run) (c : List Value) : HProp := fun h => ∃ aT cT, c = rnC x (.slice aT x.text.length cT) ∧ own 21 1 (.slice aT x.text.length cT) x.text.length (runes x.text) h
def rnl : List Run → List (List Value) → HProp
  | [], [] => fun _ => True
  | x :: l, c :: L => star (rnO x c) (rnl l L)
  | _, _ => fun _ => False
def rns (v : Value) (l : List Run) : HProp := fun h => ∃ L : List (List Value), star (own 36 4 v l.length L.flatten) (rnl l L) h
theorem sat_tt (hs : sat W H w) : sat W ((fun _ => True) :: H) w := ⟨hs.1, hs.2.1, hs.2.2.1, fun _ => none, _, fun _ => .inl rfl, fun _ _ e => by simp at e, Hp.sub_refl _, trivial, hs.2.2.2⟩
theorem rnl_one {x : Run} {aT : Option Addr} {cT : Nat} (hs : sat W (own 21 1 (.slice aT x.text.length cT) x.text.length (runes x.text) :: H) w) : sat W (rnl [x] [rnC x (.slice aT x.text.length cT)] :: H) w := by
  have h2 := hs.imp (B := rnO x (rnC x (.slice aT x.text.length cT))) fun _ h => ⟨aT, cT, rfl, h⟩
  exact (sat_tt h2).b1.star
theorem rns_nil (hs : sat W H w) : sat W (rns (.slice none 0 0) [] :: H) w := ((sat_tt hs).own_nil 36 4).star.imp fun _ h => ⟨[], h⟩
theorem rns_mk {v : Value} {l : List Run} {L : List (List Value)} {xs : List Value} (e : xs = L.flatten) (hs : sat W (own 36 4 v l.length xs :: rnl l L :: H) w) : sat W (rns v l :: H) w := by
  subst e
  exact hs.star.imp fun _ h => ⟨L, h⟩
theorem rns_open {v : Value} {l : List Run} (hs : sat W (rns v l :: H) w) : ∃ L : List (List Value), sat W (own 36 4 v l.length L.flatten :: rnl l L :: H) w :=
  let ⟨L, h⟩ := hs.ex; ⟨L, h.unstar⟩
theorem rnl_app : ∀ {l1 : List Run} {L1 : List (List Value)} {l2 : List Run} {L2 : List (List Value)} {H : List HProp}, sat W (rnl l1 L1 :: rnl l2 L2 :: H) w → sat W (rnl (l1 ++ l2) (L1 ++ L2) :: H) w
  | [], [], _, _, _, hs => hs.drop
  | [], _ :: _, _, _, _, hs => by
    have hs : sat W (pur False :: _) w := hs
    exact hs.pure.elim
  | _ :: _, [], _, _, _, hs => by
    have hs : sat W (pur False :: _) w := hs
    exact hs.pure.elim
  | x :: l, c :: L, _, _, _, hs => by
    have hs : sat W (star (rnO x c) (rnl l L) :: _) w := hs
    have hs := hs.unstar
    have h2 := rnl_app (hs.b1.b2.b1)
    exact h2.b1.star
theorem rnl_rows : ∀ {l : List Run} {L : List (List Value)} {H : List HProp}, sat W (rnl l L :: H) w → L.length = l.length ∧ ∀ r ∈ L, r.length = 4 ∧ ∀ u ∈ r, u.oneCell' = true
  | [], [], _, _ => ⟨rfl, fun u hu => (List.not_mem_nil hu).elim⟩
  | [], _ :: _, _, hs => by
    have hs : sat W (pur False :: _) w := hs
    exact hs.pure.elim
  | _ :: _, [], _, hs => by
    have hs : sat W (pur False :: _) w := hs
    exact hs.pure.elim
  | x :: l, c :: L, _, hs => by
    have hs : sat W (star (rnO x c) (rnl l L) :: _) w := hs
    have hs := hs.unstar
    obtain ⟨ih1, ih2⟩ := rnl_rows hs.b1
    obtain ⟨aT, hs⟩ := hs.ex
    obtain ⟨cT, hs⟩ := hs.ex
    obtain ⟨rfl, hs⟩ := hs.and_pure
    refine ⟨by rw [List.length_cons, List.length_cons, ih1], fun r hr => ?_⟩
    rcases List.mem_cons.1 hr with rfl | hr
    · refine ⟨rfl, fun u hu => ?_⟩
      unfold rnC at hu
      simp only [List.mem_cons, List.not_mem_nil, or_false] at hu
      rcases hu with rfl | rfl | rfl | rfl <;> rfl
    · exact ih2 r hr
theorem rns_len {v : Value} {l : List Run} {a : Option Addr} {n c : Nat} (hv : v = .slice a n c) (hs : sat W (rns v l :: H) w) : l.length = n := by
  obtain ⟨L, hs⟩ := rns_open hs
  subst hv
  rcases hs.own_cases.2 with ⟨e, h, _⟩ | ⟨_, _, _, e, _⟩
  · cases e; exact h
  · cases e; rfl
/-! ## The classifier -/
def tyP (b : Nat) (q : List One) (life now : Int) : HProp := fun h => ∃ g f n, f < 64 ∧ n ≤ 64 ∧ queue g f n = q ∧ cel b 63 (tyL g f n life now) h
theorem ty_of {b : Nat} {q : List One} {life now : Int} (hs : TY W b q life now H w) : sat W (tyP b q life now :: H) w := by
  obtain ⟨g, f, n, h1, h2, h3, hs⟩ := hs
  exact hs.imp fun _ h => ⟨g, f, n, h1, h2, h3, h⟩
theorem ty_to_ {b : Nat} {q : List One} {life now : Int} (hs : sat W (tyP b q life now :: H) w) : TY W b q life now H w := by
  obtain ⟨g, hs⟩ := hs.ex
  obtain ⟨f, hs⟩ := hs.ex
  obtain ⟨n, hs⟩ := hs.ex
  obtain ⟨h1, hs⟩ := hs.and_pure
  obtain ⟨h2, hs⟩ := hs.and_pure
  obtain ⟨h3, hs⟩ := hs.and_pure
  exact ⟨g, f, n, h1, h2, h3, hs⟩
def clC (bt bf : Nat) (c : Cl) (vT : Value) : List Value := [.pointer (some ⟨bt, 0, none⟩), .pointer (some ⟨bf, 0, none⟩), .int .i64 c.quiet, .int .u8 c.run.kind, .int .u64 c.run.frm, .int .u64 c.run.to_, vT, .int .i64 c.last, .int .i64 c.now]
def clP (b : Nat) (c : Cl) : HProp := fun h => ∃ bt bf a cp, star (cel b 50 (clC bt bf c (.slice a c.run.text.length cp))) (star (own 21 1 (.slice a c.run.text.length cp) c.run.text.length (runes c.run.text)) (star (tyP bt c.q c.life c.tnow) (cel bf 65 (stL c.fr)))) h
theorem cl_open {b n : Nat} {c : Cl} (hn : c.run.text.length = n) (hs : sat W (clP b c :: H) w) : ∃ bt bf a cp, sat W (cel b 50 (clC bt bf c (.slice a n cp)) :: own 21 1 (.slice a n cp) n (runes c.run.text) :: tyP bt c.q c.life c.tnow :: cel bf 65 (stL c.fr) :: H) w := by
  subst hn
  obtain ⟨bt, hs⟩ := hs.ex
  obtain ⟨bf, hs⟩ := hs.ex
  obtain ⟨a, hs⟩ := hs.ex
  obtain ⟨cp, hs⟩ := hs.ex
  have h1 := hs.unstar.b1.unstar.b1.unstar
  exact ⟨bt, bf, a, cp, by (refine sb_from ?_ h1; repeat constructor)⟩
theorem cl_close {b n bt bf cp : Nat} {a : Option Addr} {c : Cl} (hn : c.run.text.length = n) (hs : sat W (cel b 50 (clC bt bf c (.slice a n cp)) :: own 21 1 (.slice a n cp) n (runes c.run.text) :: tyP bt c.q c.life c.tnow :: cel bf 65 (stL c.fr) :: H) w) : sat W (clP b c :: H) w := by
  subst hn
  have h1 := (hs.b3.b3.star)
  have h2 : sat W (own 21 1 (.slice a c.run.text.length cp) c.run.text.length (runes c.run.text) :: star (tyP bt c.q c.life c.tnow) (cel bf 65 (stL c.fr)) :: cel b 50 (clC bt bf c (.slice a c.run.text.length cp)) :: H) w := by (refine sb_from ?_ h1; repeat constructor)
  have h3 := h2.star
  exact h3.b1.star.imp fun _ h => ⟨bt, bf, a, cp, h⟩
theorem row36 : rowTy Try.prog 36 4 = true := by kernel_rfl
theorem one29 : oneTy Try.prog 29 = true := by kernel_rfl
theorem slty29 : SlTy Try.prog 29 36 4 48 := ⟨Try.underlying29, by obtain ⟨i0, hi, hz0, hz1, hz2⟩ := info_parts (show (Try.prog.info? 36).map (fun i => (i.zero, i.size, i.bytes)) = some (some (.agg #[.int .u8 0, .int .u64 0, .int .u64 0, .slice none 0 0]), 4, 48) by kernel_rfl); exact ⟨i0, _, hi, hz0, hz1, hz2, rfl⟩, by decide⟩
theorem slty30 : SlTy Try.prog 30 21 1 4 := ⟨Try.underlying30, by obtain ⟨i0, hi, hz0, hz1, hz2⟩ := info_parts (show (Try.prog.info? 21).map (fun i => (i.zero, i.size, i.bytes)) = some (some (.int .i32 0), 1, 4) by kernel_rfl); exact ⟨i0, _, hi, hz0, hz1, hz2, rfl⟩, by decide⟩
attribute [local irreducible] World.setCell World.setCells World.alloc World.drew World.drewN Calls sat cel own blk old wpQuiet wpList tyL ringC rns tyP clP
variable {b z : Nat} {c : Cl}
theorem none14 (hs : sat W (clP b c :: H) w) : Calls Try.prog 14 #[.pointer (some ⟨b, 0, none⟩)] w fun e w' => e = .returned (.bool false) ∧ sat W (clP b c :: H) w' := by
  obtain ⟨n, hn⟩ : ∃ n, c.run.text.length = n := ⟨_, rfl⟩
  obtain ⟨bt, bf, a, cp, hs⟩ := cl_open hn hs
  have HN := Lib.hid hn
  clear hn
  go_enter Try.func14, Try.ntmps14
  go_wp2_with (first | ((with_reducible refine isl ?_); first | ((with_reducible apply ld hs.b0); exact rfl; exact rfl; exact rfl; exact rfl; kernel_rfl) | ((with_reducible apply st hs.b0); exact rfl; exact rfl; exact rfl; exact rfl; exact rfl; exact rfl; kernel_rfl; exact rfl; clear hs; intro w hs) | ((with_reducible apply stc hs.b0); exact rfl; exact rfl; exact rfl; exact rfl; exact rfl; kernel_rfl; exact rfl; clear hs; intro w hs) | ((with_reducible refine wrap hs ?_); clear hs; intro w hs) | ((with_reducible refine wrapn hs ?_); clear hs; intro w hs) | ((with_reducible refine wrapd hs ?_); clear hs; intro w hs)))
  go_ret
  exact ⟨rfl, cl_close HN.out hs⟩
end Go.Proofs.Ytkldbppldomjhaa
