/- Law 9: Resize. -/
import Derived.Test.YtdcagaaanbgcoaaS7
namespace Go.Proofs.Ytdcagaaanbgcoaa
open Go.RowKit Go.Mem Go.Cells Go.Lines
variable {W w : World} {H : List HProp}
theorem range_drop {b off k : Nat} {xs : List Value} (h : w.rangeAt b off xs) : w.rangeAt b (off + k) (xs.drop k) := fun j u hj => by
  rw [List.getElem?_drop] at hj
  rw [Nat.add_assoc]
  exact h _ _ hj
attribute [local irreducible] rowTy oneTy World.setCell World.setCells World.alloc World.drew World.drewN Calls sat cel own blk old wpQuiet wpList cmb cmb1 rwP cls rws wi wh fst_ World.rangeAt lrw lnP stP lsP dsP lvs frL downL upL pushs
set_option maxRecDepth 20000 in
theorem sclone46 {g N p k c : Nat} {ps : List PL} (hk : k < N) (hps : ps.length = N) (hN : N ≤ 512) (hs : sat W (own 81 2 (.slice (some ⟨g, 0, none⟩) N p) N (lvs ps).flatten :: H) w) :
    Calls Try.prog 46 #[.slice (some ⟨g, k * 2, none⟩) (N - k) c] w fun e w' => ∃ g2 c2, e = .returned (.slice (some ⟨g2, 0, none⟩) (N - k) c2) ∧ sat W (own 81 2 (.slice (some ⟨g2, 0, none⟩) (N - k) c2) (N - k) (lvs (ps.drop k)).flatten :: own 81 2 (.slice (some ⟨g, 0, none⟩) N p) N (lvs ps).flatten :: H) w' := by
  have HR : Hid (∀ w', sat W (own 81 2 (.slice (some ⟨g, 0, none⟩) N p) N (lvs ps).flatten :: H) w' → Rds w' (.slice (some ⟨g, k * 2, none⟩) (N - k) c) (N - k) (lvs (ps.drop k)).flatten) := Lib.hid fun w' h => by
    refine .inr ⟨g, k * 2, c, rfl, ?_⟩
    rcases h.own_rds with ⟨e, _⟩ | ⟨b', off', c', e, hr⟩
    · cases e
    · cases e
      have h1 := range_drop (k := k * 2) hr
      rw [Nat.zero_add, flat_drop (lvs ps) k (lvs2 ps), lvs_drop] at h1
      exact h1
  have HL : Hid ((lvs (ps.drop k)).flatten.length = (N - k) * 2) := Lib.hid (by rw [lvs_size, List.length_drop, hps])
  have hb : (N - k) * 16 ≤ 140737488355328 := by omega
  have hm : N - k ≤ maxLen := by unfold maxLen; omega
  have HB := Lib.hid (And.intro hb hm)
  have h0 : 0 < N - k := by omega
  clear hb hm hps hN
  have hnil := Go.Lib.run_eql_slice_nil (P := Try.prog) w 44 81 (some ⟨g, k * 2, none⟩) (N - k) c 0 0 Try.underlying44
  go_enter Try.func46, Try.ntmps46
  go_wp2_with (first | (apply apx0 hs.b0; exact rfl; exact rfl; exact rfl; exact rfl; exact slty44; exact HR.out _ hs.drop; exact HL.out; exact lvs_one; exact HB.out.1; exact HB.out.2; clear hs; intro a5 c5 w hs) | ((with_reducible refine isl ?_); first | ((with_reducible refine wrap hs ?_); clear hs; intro w hs) | ((with_reducible refine wrapn hs ?_); clear hs; intro w hs) | ((with_reducible refine wrapd hs ?_); clear hs; intro w hs)))
  obtain ⟨g2, rfl⟩ := own_ptr h0 hs
  go_ret
  exact ⟨g2, c5, rfl, hs⟩
/-- A line's row, resized. -/
def rsz (m : Nat) (x : PL) : PL := ⟨x.id, x.b, resG x.l m⟩
def rszL (m : Nat) (x : LN) : LN := (x.1, resG x.2 m)
theorem lvs_rsz (m k : Nat) (ps : List PL) : lvs ((ps.take k).map (rsz m) ++ ps.drop k) = lvs ps := by
  have e : lvs ((ps.take k).map (rsz m)) = lvs (ps.take k) := by unfold lvs; rw [List.map_map]; rfl
  rw [lvs_app, e, ← lvs_app, List.take_append_drop]
theorem rsz_set {m k : Nat} {ps : List PL} {x : PL} (hx : ps[k]? = some x) : ((ps.take k).map (rsz m) ++ ps.drop k).set k (rsz m x) = (ps.take (k + 1)).map (rsz m) ++ ps.drop (k + 1) := by
  have hk := (List.getElem?_eq_some_iff.1 hx).1
  have hl : ((ps.take k).map (rsz m)).length = k := by rw [List.length_map, List.length_take]; omega
  have e : ps.drop k = x :: ps.drop (k + 1) := by rw [List.drop_eq_getElem_cons hk, (List.getElem?_eq_some_iff.1 hx).2]
  rw [e, List.take_add_one, hx]
  have h1 : ((ps.take k).map (rsz m) ++ x :: ps.drop (k + 1)).set k (rsz m x) = (ps.take k).map (rsz m) ++ rsz m x :: ps.drop (k + 1) := by
    rw [List.set_append_right _ _ (by omega), hl, Nat.sub_self]
    rfl
  rw [h1]
  simp
theorem rsz_at {m k : Nat} {ps : List PL} {x : PL} (hx : ps[k]? = some x) : ((ps.take k).map (rsz m) ++ ps.drop k)[k]? = some x := by
  have hk := (List.getElem?_eq_some_iff.1 hx).1
  rw [List.getElem?_append_right (by rw [List.length_map, List.length_take]; omega), List.getElem?_drop, List.length_map, List.length_take, show k + (k - min k ps.length) = k from by omega]
  exact hx
theorem rsz_map (m : Nat) (ps : List PL) : (ps.map (rsz m)).map PL.ln = (ps.map PL.ln).map (rszL m) := by rw [List.map_map, List.map_map]; rfl
end Go.Proofs.Ytdcagaaanbgcoaa
