/- Law 21: Do. -/
import Derived.Test.YtcheljogpffabaaR10
import Derived.Test.YtcheljogpffabaaSm
namespace Go.Proofs.Ytcheljogpffabaa
open Go.RowKit Go.Mem Go.Words Go.Deep Go.Rev Go.Maps
variable {W w : World} {H : List HProp} {g : Gm} {n m : Nat}
theorem klaw5 : Keyed Try.prog 5 := int_keyed Try.underlying5
theorem key_u8 {x : Int} (h : 0 ≤ x ∧ x ≤ 255) : keyOf Try.prog 5 (.int .u8 x) = some (.int .u8 x) := by
  have hw : (Lit.int .u8 x).wf = true := by
    simp [Lit.wf, IntKind.min, IntKind.max, IntKind.signed, IntKind.bits]; omega
  simp [keyOf, Try.underlying5, mapKey, hw]
abbrev uenc (x : Int) : Value := Value.int .u8 x
theorem uenc_inj : ∀ x y, uenc x = uenc y → x = y := fun x y h => by cases h; rfl
theorem zero1 (w : World) : (zeroValue 1).run Try.prog w = .ok .nilFunc w := by
  obtain ⟨i0, hi, hz0, hz1, hz2⟩ := info_parts (show (Try.prog.info? 1).map (fun i => (i.zero, i.size, i.bytes)) = some (some .nilFunc, 1, 8) by kernel_rfl)
  simp [zeroValue, typeInfo, hi, hz0]
/-- The commands, by their numbers: below k. -/
def cmds (a : Nat) (k : Nat) : Int → Option Value := fun c => if 1 ≤ c ∧ c < k then some (.func (.func (25 + c.toNat)) #[.pointer (some ⟨a, 0, none⟩)] #[]) else none
theorem cmds_one (a : Nat) : cmds a 1 = fun _ => none := by funext c; unfold cmds; rw [if_neg (by omega)]
theorem cmds_up (a k : Nat) (f : Nat) (hk : 1 ≤ k) (hf : f = 25 + k) : upd (cmds a k) (k : Int) (.func (.func f) #[.pointer (some ⟨a, 0, none⟩)] #[]) = cmds a (k + 1) := by
  funext c
  unfold upd cmds
  by_cases h : c = (k : Int)
  · subst h; rw [if_pos rfl, if_pos (by omega), hf, Int.toNat_natCast]
  · rw [if_neg h]
    by_cases h2 : 1 ≤ c ∧ c < (k : Int)
    · rw [if_pos h2, if_pos (by omega)]
    · rw [if_neg h2, if_neg (by omega)]
section
variable {ops : Array Oper} {rest : List Oper} {o : Oper} {ac : Act} {Q : Exit → Act → World → Prop} {b a : Nat}
theorem muc {x i v : Operand} (k : Nat) (f : Nat) (hs : sat W (mp Try.prog 5 uenc b (cmds a k) :: H) w) (ho : o.op = .insert 79 x i v) (hw : Region.wanted o (yielded ops ac.tmps) = true) (hx : ac.eval x = .map (some b)) (hi : ac.eval i = .int .u8 k)
    (hv : ac.eval v = .func (.func f) #[.pointer (some ⟨a, 0, none⟩)] #[]) (hk : 1 ≤ k ∧ k ≤ 200 ∧ f = 25 + k) (h : ∀ w', sat W (mp Try.prog 5 uenc b (cmds a (k + 1)) :: H) w' → wpList Try.prog ops Q rest (ac.put o.dst undef) w') : wpList Try.prog ops Q (o :: rest) ac w :=
  mu hs (.inr ho) hw hx (hi.trans rfl) hv klaw5 Try.underlying79 uenc_inj (key_u8 (x := k) (by omega)) (fun w' hs => h w' (by rw [← cmds_up a k f hk.1 hk.2.2]; exact hs))
theorem lkc {x i : Operand} {c : Int} {r : Value} {q : Bool} (hs : sat W (mp Try.prog 5 uenc b (cmds a 15) :: H) w) (ho : o.op = .lookup 79 x i true) (hw : Region.wanted o (yielded ops ac.tmps) = true) (hx : ac.eval x = .map (some b)) (hi : ac.eval i = .int .u8 c)
    (hc : 0 ≤ c ∧ c ≤ 255) (hr : (cmds a 15 c).getD .nilFunc = r ∧ (cmds a 15 c).isSome = q) (h : wpList Try.prog ops Q rest (ac.put o.dst (.tuple #[r, .bool q])) w) : wpList Try.prog ops Q (o :: rest) ac w := by
  obtain ⟨es, clock, hb, _, p1, p2, _⟩ := hs.map_open
  refine BigFrame.wpList_want hw fun K' hK => ?_
  unfold Oper.wp execOp
  have hk := key_u8 hc
  have hch : ∀ em, (Instr.checkKey em 10000 5 (uenc c)).run Try.prog w = .ok () w := fun em => klaw5.check w em hk
  obtain ⟨hr1, hr2⟩ := hr
  subst hr1 hr2
  rcases map_found klaw5 uenc_inj p1 p2 hk w with ⟨h1, hm, _⟩ | ⟨j, e0, h1, h2, h3, hm⟩
  · simp [ho, hx, hi, Instr.lookup, run_underlying Try.underlying79, MapKept.run_getObj_map hb, hch, h1, zero1, Result.andThen]
    rw [hm] at h; exact hK _ _ h
  · simp [ho, hx, hi, Instr.lookup, run_underlying Try.underlying79, MapKept.run_getObj_map hb, hch, h1, Result.andThen]
    rw [hm] at h; exact hK _ _ h
end
end Go.Proofs.Ytcheljogpffabaa
