import Derived.Test.YtdbhgjkdblhhkaaP6
import Derived.Test.YtdbhgjkdblhhkaaSo
namespace Go.Proofs.Ytdbhgjkdblhhkaa
open Go.RowKit Go.Mem
variable {W w : World} {H : List HProp}
abbrev bytesV (l : List Int) : List Value := l.map fun x => Value.int .u8 x
/-- What a window shows. -/
def showL (cells : List Int) (wd o : Nat) : List Int := (cells.drop o).take wd ++ (List.replicate wd (0 : Int)).drop (min (cells.length - o) wd)
theorem showV (cells : List Int) (wd o : Nat) : (bytesV (cells.drop o)).take wd ++ (List.replicate wd (Value.int .u8 0)).drop (min (cells.length - o) wd) = bytesV (showL cells wd o) := by
  unfold showL
  simp [List.map_take, List.map_drop]
theorem info5 : (Try.prog.info? 5).map (fun i => (i.zero, i.size, i.bytes)) = some (some (.int .u8 0), 1, 1) := by kernel_rfl
theorem size5 : (Try.prog.info? 5).map (·.size) = some 1 := by kernel_rfl
theorem RdC.reads {Hc : List HProp} {bb o1 n c : Nat} {cells : List Int} (h : RdC Hc (some ⟨bb, o1, none⟩) n c cells) (hs : sat W Hc w) {o c' : Nat} (ho : o ≤ n) : Reads w (.slice (some ⟨bb, o1 + o, none⟩) (n - o) c') (bytesV (cells.drop o)) := by
  obtain ⟨h1, h2⟩ := h.len hs
  refine ⟨by simp; omega, some ⟨bb, o1 + o, none⟩, c', by simp [h1], fun _ => ⟨bb, o1 + o, rfl, fun i u hu => ?_⟩⟩
  have hi : o + i < n := by
    have := (List.getElem?_eq_some_iff.1 hu).1
    simp at this
    omega
  obtain ⟨b2, o2, e, hc⟩ := h.cell hs hi
  cases e
  rw [Nat.add_assoc, hc]
  rw [← hu, List.getD_eq_getElem?_getD]
  have hi2 : o + i < cells.length := by omega
  simp [hi2]
theorem bytes_one (l : List Int) : ∀ u ∈ bytesV l, u.oneCell' = true := fun u hu => by
  obtain ⟨x, _, rfl⟩ := List.mem_map.1 hu
  rfl
theorem reads_nil (w : World) (a : Option Addr) (c : Nat) : Reads w (.slice a 0 c) [] := ⟨Nat.zero_le _, a, c, rfl, fun h => absurd rfl h⟩
attribute [local irreducible] World.setCell World.setCells World.alloc World.drew World.drewN Calls sat cel own blk old wpQuiet wpList
variable {b wd off : Nat}
section
variable {cells : List Int} {Hc : List HProp} {a : Option Addr} {n c : Nat}
set_option maxHeartbeats 1000000 in
theorem show15 (hw : 0 < wd) (hw2 : wd ≤ 80) (hr : RdC Hc a n c cells) {o : Nat} (ho : lastOf cells wd hw (off : Int) = o) (hs : sat W (cel b 36 (winL wd off) :: (Hc ++ H)) w) :
    Calls Try.prog 15 #[.pointer (some ⟨b, 0, none⟩), .slice a n c] w fun e w' => ∃ g, e = .returned (.slice (some ⟨g, 0, none⟩) wd wd) ∧ sat W (own 5 1 (.slice (some ⟨g, 0, none⟩) wd wd) wd (bytesV (showL cells wd o)) :: cel b 36 (winL wd o) :: (Hc ++ H)) w' := by
  have hon : o ≤ cells.length := by rw [← ho]; exact Pan.lastB_le _
  have hlen := hr.len (hs.drop.only)
  obtain ⟨hl1, hl2⟩ := hlen
  have hcap : n ≤ c := ((hr W w hs.drop.only).len).2.1
  have hcap2 : c ≤ maxLen := ((hr W w hs.drop.only).len).2.2
  have hon2 : o ≤ n := by omega
  unfold maxLen at hl2 hcap2
  have HL := Lib.hid hl1
  have HO := Lib.hid ho
  have HR := Lib.hid hr
  clear ho hr hl1 hon
  have hE : n = 0 → bytesV (cells.drop o) = [] := fun e => by
    have := HL.out
    have h0 : cells = [] := List.eq_nil_of_length_eq_zero (by omega)
    rw [h0]; simp
  have HV := Lib.hid (showV cells wd o)
  have hlm : (bytesV (cells.drop o)).length = n - o := by have := HL.out; simp; omega
  have HLM := Lib.hid hlm
  clear hlm
  by_cases hn : n = 0
  · have HE := Lib.hid (hE hn)
    clear hE
    obtain rfl : o = 0 := by omega
    subst hn
    have HX := Lib.hid (show List.replicate wd (Value.int .u8 0) = bytesV (showL cells wd 0) by
      rw [← HV.out, HE.out, ← HL.out]; simp)
    rcases a with _ | ad
    · skip
      go_enter Try.func15, Try.ntmps15
      go_wp2_with (first | (go_at_call 28; refine (ready28 hw hs).mono ?_; clear hs; rintro e w ⟨rfl, hs⟩) | (go_at_call 16; refine (hold16 hw hw2 HR.out HO.out hs).mono ?_; clear hs; rintro e w ⟨rfl, hs⟩) | (apply mks hs; exact rfl; exact rfl; exact rfl; exact rfl; exact Try.underlying22; exact info5; exact rfl; omega; (unfold maxLen; omega); clear hs; intro g w hs) | (apply cpy (ys := []) (m := 0) hs; exact rfl; exact rfl; exact rfl; exact rfl; exact Try.underlying22; exact size5; exact reads_nil _ _ _; (intro u hu; cases hu); exact rfl; clear hs; intro w hs) | ((with_reducible refine isl ?_); first | ((with_reducible apply ld hs.b0); exact rfl; exact rfl; exact rfl; exact rfl; kernel_rfl) | ((with_reducible apply ld hs.b1); exact rfl; exact rfl; exact rfl; exact rfl; kernel_rfl) | ((with_reducible apply st hs.b0); exact rfl; exact rfl; exact rfl; exact rfl; exact rfl; exact rfl; kernel_rfl; exact rfl; clear hs; intro w hs) | ((with_reducible apply st hs.b1); exact rfl; exact rfl; exact rfl; exact rfl; exact rfl; exact rfl; kernel_rfl; exact rfl; clear hs; intro w hs) | ((with_reducible apply stc hs.b0); exact rfl; exact rfl; exact rfl; exact rfl; exact rfl; kernel_rfl; exact rfl; clear hs; intro w hs) | ((with_reducible apply stc hs.b1); exact rfl; exact rfl; exact rfl; exact rfl; exact rfl; kernel_rfl; exact rfl; clear hs; intro w hs) | ((with_reducible refine wrap hs ?_); clear hs; intro w hs) | ((with_reducible refine wrapn hs ?_); clear hs; intro w hs) | ((with_reducible refine wrapd hs ?_); clear hs; intro w hs)))
      go_ret
      refine ⟨_, rfl, ?_⟩
      rw [← HX.out]
      simpa using hs
    · skip
      go_enter Try.func15, Try.ntmps15
      go_wp2_with (first | (go_at_call 28; refine (ready28 hw hs).mono ?_; clear hs; rintro e w ⟨rfl, hs⟩) | (go_at_call 16; refine (hold16 hw hw2 HR.out HO.out hs).mono ?_; clear hs; rintro e w ⟨rfl, hs⟩) | (apply mks hs; exact rfl; exact rfl; exact rfl; exact rfl; exact Try.underlying22; exact info5; exact rfl; omega; (unfold maxLen; omega); clear hs; intro g w hs) | (apply cpy (ys := []) (m := 0) hs; exact rfl; exact rfl; exact rfl; exact rfl; exact Try.underlying22; exact size5; exact reads_nil _ _ _; (intro u hu; cases hu); exact rfl; clear hs; intro w hs) | ((with_reducible refine isl ?_); first | ((with_reducible apply ld hs.b0); exact rfl; exact rfl; exact rfl; exact rfl; kernel_rfl) | ((with_reducible apply ld hs.b1); exact rfl; exact rfl; exact rfl; exact rfl; kernel_rfl) | ((with_reducible apply st hs.b0); exact rfl; exact rfl; exact rfl; exact rfl; exact rfl; exact rfl; kernel_rfl; exact rfl; clear hs; intro w hs) | ((with_reducible apply st hs.b1); exact rfl; exact rfl; exact rfl; exact rfl; exact rfl; exact rfl; kernel_rfl; exact rfl; clear hs; intro w hs) | ((with_reducible apply stc hs.b0); exact rfl; exact rfl; exact rfl; exact rfl; exact rfl; kernel_rfl; exact rfl; clear hs; intro w hs) | ((with_reducible apply stc hs.b1); exact rfl; exact rfl; exact rfl; exact rfl; exact rfl; kernel_rfl; exact rfl; clear hs; intro w hs) | ((with_reducible refine wrap hs ?_); clear hs; intro w hs) | ((with_reducible refine wrapn hs ?_); clear hs; intro w hs) | ((with_reducible refine wrapd hs ?_); clear hs; intro w hs)))
      go_ret
      refine ⟨_, rfl, ?_⟩
      rw [← HX.out]
      simpa using hs
  · obtain ⟨bb, o1, rfl, _⟩ := HR.out.cell hs.drop.only (show 0 < n by omega)
    by_cases hco : c = o
    · obtain rfl : n = o := by omega
      subst hco
      have HX := Lib.hid (show List.replicate wd (Value.int .u8 0) = bytesV (showL cells wd c) by
        have h0 : bytesV (cells.drop c) = [] := List.eq_nil_of_length_eq_zero (by rw [HLM.out]; omega)
        rw [← HV.out, h0, ← HL.out]; simp)
      go_enter Try.func15, Try.ntmps15
      go_wp2_with (first | (go_at_call 28; refine (ready28 hw hs).mono ?_; clear hs; rintro e w ⟨rfl, hs⟩) | (go_at_call 16; refine (hold16 hw hw2 HR.out HO.out hs).mono ?_; clear hs; rintro e w ⟨rfl, hs⟩) | (apply mks hs; exact rfl; exact rfl; exact rfl; exact rfl; exact Try.underlying22; exact info5; exact rfl; omega; (unfold maxLen; omega); clear hs; intro g w hs) | (apply cpy (ys := []) (m := 0) hs; exact rfl; exact rfl; exact rfl; exact rfl; exact Try.underlying22; exact size5; exact reads_nil _ _ _; (intro u hu; cases hu); exact rfl; clear hs; intro w hs) | ((with_reducible refine isl ?_); first | ((with_reducible apply ld hs.b0); exact rfl; exact rfl; exact rfl; exact rfl; kernel_rfl) | ((with_reducible apply ld hs.b1); exact rfl; exact rfl; exact rfl; exact rfl; kernel_rfl) | ((with_reducible apply st hs.b0); exact rfl; exact rfl; exact rfl; exact rfl; exact rfl; exact rfl; kernel_rfl; exact rfl; clear hs; intro w hs) | ((with_reducible apply st hs.b1); exact rfl; exact rfl; exact rfl; exact rfl; exact rfl; exact rfl; kernel_rfl; exact rfl; clear hs; intro w hs) | ((with_reducible apply stc hs.b0); exact rfl; exact rfl; exact rfl; exact rfl; exact rfl; kernel_rfl; exact rfl; clear hs; intro w hs) | ((with_reducible apply stc hs.b1); exact rfl; exact rfl; exact rfl; exact rfl; exact rfl; kernel_rfl; exact rfl; clear hs; intro w hs) | ((with_reducible refine wrap hs ?_); clear hs; intro w hs) | ((with_reducible refine wrapn hs ?_); clear hs; intro w hs) | ((with_reducible refine wrapd hs ?_); clear hs; intro w hs)))
      go_ret
      refine ⟨_, rfl, ?_⟩
      rw [← HX.out]
      simpa using hs
    · clear hE
      go_enter Try.func15, Try.ntmps15
      go_wp2_with (first | (go_at_call 28; refine (ready28 hw hs).mono ?_; clear hs; rintro e w ⟨rfl, hs⟩) | (go_at_call 16; refine (hold16 hw hw2 HR.out HO.out hs).mono ?_; clear hs; rintro e w ⟨rfl, hs⟩) | (apply mks hs; exact rfl; exact rfl; exact rfl; exact rfl; exact Try.underlying22; exact info5; exact rfl; omega; (unfold maxLen; omega); clear hs; intro g w hs) | (apply cpy hs; exact rfl; exact rfl; exact rfl; exact rfl; exact Try.underlying22; exact size5; exact (HR.out.reads hs.drop.drop.only hon2); exact bytes_one _; exact HLM.out; clear hs; intro w hs) | ((with_reducible refine isl ?_); first | ((with_reducible apply ld hs.b0); exact rfl; exact rfl; exact rfl; exact rfl; kernel_rfl) | ((with_reducible apply ld hs.b1); exact rfl; exact rfl; exact rfl; exact rfl; kernel_rfl) | ((with_reducible apply st hs.b0); exact rfl; exact rfl; exact rfl; exact rfl; exact rfl; exact rfl; kernel_rfl; exact rfl; clear hs; intro w hs) | ((with_reducible apply st hs.b1); exact rfl; exact rfl; exact rfl; exact rfl; exact rfl; exact rfl; kernel_rfl; exact rfl; clear hs; intro w hs) | ((with_reducible apply stc hs.b0); exact rfl; exact rfl; exact rfl; exact rfl; exact rfl; kernel_rfl; exact rfl; clear hs; intro w hs) | ((with_reducible apply stc hs.b1); exact rfl; exact rfl; exact rfl; exact rfl; exact rfl; kernel_rfl; exact rfl; clear hs; intro w hs) | ((with_reducible refine wrap hs ?_); clear hs; intro w hs) | ((with_reducible refine wrapn hs ?_); clear hs; intro w hs) | ((with_reducible refine wrapd hs ?_); clear hs; intro w hs)))
      go_ret
      refine ⟨_, rfl, ?_⟩
      rw [show min (n - o) wd = min (cells.length - o) wd by rw [HL.out], HV.out] at hs
      exact hs
end
end Go.Proofs.Ytdbhgjkdblhhkaa
