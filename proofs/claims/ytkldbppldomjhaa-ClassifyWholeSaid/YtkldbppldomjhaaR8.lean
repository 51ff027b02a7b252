/- Law 16: put, taken; Take and Type as parts; what feeding does. -/
import Derived.Test.YtkldbppldomjhaaR7
namespace Go.Proofs.Ytkldbppldomjhaa
open Go.RowKit Go.Mem Go.Typed Go.Front Go.Classify
variable {W w : World} {H : List HProp}
attribute [local irreducible] World.setCell World.setCells World.alloc World.drew World.drewN Calls sat cel own blk old wpQuiet wpList tyL ringC rns tyP clP rnl
variable {b z : Nat} {c : Cl}
theorem put18 {l : List Run} {e : Ev} {kind : Int} (hi0 : 0 ≤ e.index) (hi1 : e.index < 9223372036854775807) (h200 : c.run.text.length ≤ 1000) (hl : l.length ≤ 1000) (hs : sat W (clP b c :: lst z l :: H) w) : Calls Try.prog 18 #[.pointer (some ⟨b, 0, none⟩), evV e, .int .u8 kind, .pointer (some ⟨z, 0, none⟩)] w fun e' w' => e' = .returned (.tuple #[]) ∧ sat W (clP b (putc c e kind).1 :: lst z (l ++ (putc c e kind).2) :: H) w' := by
  by_cases hk : c.run.kind = kind
  · by_cases ht : c.run.to_ = e.index
    · by_cases h0 : c.run.text = []
      · exact put18_fresh hk ht h0 hi0 hi1 h200 hl hs
      · exact put18_more hk ht hi0 hi1 h200 h0 hl hs
    · exact put18_index hk ht hi0 hi1 h200 hl hs
  · exact put18_kind hk hi0 hi1 h200 hl hs
theorem take16 {bt : Nat} {q : List One} {life now r t : Int} (hl : 0 < life) (hs : sat W (tyP bt q life now :: H) w) : Calls Try.prog 16 #[.pointer (some ⟨bt, 0, none⟩), .int .i32 r, .int .i64 t] w fun e w' => e = .returned (.bool (take q r (tick now t)).2) ∧ sat W (tyP bt (take q r (tick now t)).1 life (tick now t) :: H) w' :=
  (take8 r t hl (ty_to_ hs)).mono fun _ _ h => ⟨h.1, ty_of h.2⟩
theorem type22 {bt : Nat} {q : List One} {life now r t : Int} (hl : 0 < life) (hl2 : life ≤ 1000) (h0 : 0 ≤ now) (h1 : now ≤ 1099511627776) (hs : sat W (tyP bt q life now :: H) w) : Calls Try.prog 22 #[.pointer (some ⟨bt, 0, none⟩), .int .i32 r, .int .i64 t] w fun e w' => e = .returned (.tuple #[]) ∧ sat W (tyP bt (push q ⟨r, tick now t + life⟩) life (tick now t) :: H) w' :=
  (type9 r t hl hl2 h0 h1 (ty_to_ hs)).mono fun _ _ h => ⟨h.1, ty_of h.2⟩
/-- What is taken of a print. -/
def tk (c : Cl) (e : Ev) : List One × Bool := if e.kind = 1 then take c.q e.r (tick c.tnow c.now) else (c.q, false)
def took (c : Cl) (e : Ev) : Cl := { c with q := (tk c e).1, tnow := if e.kind = 1 then tick c.tnow c.now else c.tnow, fr := (feed c.fr e (tk c e).2).1 }
def kindOf (c : Cl) (e : Ev) : Int := (feed c.fr e (tk c e).2).2
def ends (e : Ev) : Prop := (e.kind = 3 ∧ e.wrap = false) ∨ e.kind = 4 ∨ e.kind = 5
instance (e : Ev) : Decidable (ends e) := by unfold ends; infer_instance
def feedb (c : Cl) (e : Ev) : Cl × List Run :=
  if kindOf c e ≠ 0 then putc (took c e) e (kindOf c e) else if ends e then endr (took c e) else (took c e, [])
def feedc (c : Cl) (e : Ev) (t : Int) : Cl × List Run := ((feedb (tickc c t).1 e).1, (tickc c t).2 ++ (feedb (tickc c t).1 e).2)
theorem type10 {r t : Int} (ok : c.ok) (hs : sat W (clP b c :: H) w) : Calls Try.prog 10 #[.pointer (some ⟨b, 0, none⟩), .int .i32 r, .int .i64 t] w fun e w' => e = .returned (.tuple #[]) ∧ sat W (clP b { c with q := push c.q ⟨r, tick c.tnow t + c.life⟩, tnow := tick c.tnow t } :: H) w' := by
  obtain ⟨n, hn⟩ : ∃ n, c.run.text.length = n := ⟨_, rfl⟩
  obtain ⟨k1, k2, k3, k4, _⟩ := ok
  have HN := Lib.hid hn
  have H1 := Lib.hid (show (0 < c.life ∧ c.life ≤ 1000) ∧ 0 ≤ c.tnow ∧ c.tnow ≤ 1099511627776 from ⟨⟨k1, k2⟩, k3, k4⟩)
  clear hn k1 k2 k3 k4
  go_enter Try.func10, Try.ntmps10
  go_wp2_with (first | (go_at_call 14; refine (none14 hs).mono ?_; clear hs; rintro e w ⟨rfl, hs⟩; obtain ⟨bt, bf, a, cp, hs⟩ := cl_open HN.out hs; unfold clC at hs) | (go_at_call 22; refine (type22 H1.out.1.1 H1.out.1.2 H1.out.2.1 H1.out.2.2 hs.b2).mono ?_; clear hs; rintro e w ⟨rfl, hs⟩) | ((with_reducible refine isl ?_); first | ((with_reducible apply ld hs.b0); exact rfl; exact rfl; exact rfl; exact rfl; kernel_rfl) | ((with_reducible apply st hs.b0); exact rfl; exact rfl; exact rfl; exact rfl; exact rfl; exact rfl; kernel_rfl; exact rfl; clear hs; intro w hs) | ((with_reducible apply stc hs.b0); exact rfl; exact rfl; exact rfl; exact rfl; exact rfl; kernel_rfl; exact rfl; clear hs; intro w hs) | ((with_reducible refine wrap hs ?_); clear hs; intro w hs) | ((with_reducible refine wrapn hs ?_); clear hs; intro w hs) | ((with_reducible refine wrapd hs ?_); clear hs; intro w hs)))
  refine end_end0 rfl rfl ?_
  exact ⟨rfl, cl_close (c := { c with q := push c.q ⟨r, tick c.tnow t + c.life⟩, tnow := tick c.tnow t }) (n := n) (bt := bt) (bf := bf) (a := a) (cp := cp) HN.out (by (refine sb_from ?_ hs; repeat constructor))⟩
end Go.Proofs.Ytkldbppldomjhaa
