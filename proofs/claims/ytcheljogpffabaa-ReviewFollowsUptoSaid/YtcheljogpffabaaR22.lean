/- Law 21: Follows, as plain lists. -/
import Derived.Test.YtcheljogpffabaaR19
namespace Go.Rev
open Go.Words Go.Proofs.Ytcheljogpffabaa
variable {g : Gd} {n m : Nat}
/-- The first j of l, turned by k. -/
def rotL {α : Type} (d : α) (l : List α) (n k j : Nat) : List α := (List.range j).map fun i => l.getD ((i + k) % n) d
theorem rot_len {α : Type} (d : α) (l : List α) (n k j : Nat) : (rotL d l n k j).length = j := by simp [rotL]
theorem rot_zero {α : Type} (d : α) (l : List α) (n k : Nat) : rotL d l n k 0 = [] := rfl
theorem rot_snoc {α : Type} (d : α) (l : List α) (n k j : Nat) : rotL d l n k (j + 1) = rotL d l n k j ++ [l.getD ((j + k) % n) d] := by
  unfold rotL
  rw [List.range_succ, List.map_append]
  rfl
theorem rot_get {α : Type} (d : α) (l : List α) (n k : Nat) {i j : Nat} (h : i < j) : (rotL d l n k j)[i]? = some (l.getD ((i + k) % n) d) := by
  unfold rotL
  simp [h]
theorem rot_map {α β : Type} (f : α → β) (d : α) (l : List α) (n k j : Nat) : (rotL d l n k j).map f = rotL (f d) (l.map f) n k j := by
  unfold rotL
  rw [List.map_map]
  apply List.map_congr_left
  intro i _
  simp only [Function.comp, List.getD_eq_getElem?_getD, List.getElem?_map]
  cases l[(i + k) % n]? <;> rfl
/-- Whose row moved. -/
def rotG (g : Gd) (n k : Nat) : Gd := ⟨rotL [] g.rows n k n, rotL 0 g.ids n k n, g.cy, g.cx⟩
theorem rot_mem {α : Type} {d : α} {l : List α} {n k j : Nat} {x : α} (hl : l.length = n) (hn : 0 < n) (h : x ∈ rotL d l n k j) : x ∈ l := by
  unfold rotL at h
  obtain ⟨i, _, rfl⟩ := List.mem_map.1 h
  have hi : (i + k) % n < l.length := by rw [hl]; exact Nat.mod_lt _ hn
  rw [List.getD_eq_getElem?_getD, List.getElem?_eq_getElem hi]
  exact List.getElem_mem hi
theorem rot_fit (hF : Fit g n m) (k : Nat) : Fit (rotG g n k) n m :=
  ⟨hF.n1, hF.n12, hF.m1, rot_len _ _ _ _ _, rot_len _ _ _ _ _, fun r hr => hF.em r (rot_mem hF.en hF.n1 hr), fun r hr => hF.sz r (rot_mem hF.en hF.n1 hr)⟩
theorem rot_row (hF : Fit g n m) (k : Nat) {i : Nat} (hi : i < n) : (rotG g n k).row i = g.row ((i + k) % n) := by
  unfold Gd.row
  show (rotL [] g.rows n k n).getD i [] = _
  rw [List.getD_eq_getElem?_getD, rot_get _ _ _ _ hi]
  rfl
theorem rot_wd (hF : Fit g n m) (k : Nat) {i : Nat} (hi : i < n) (x : Nat) : (rotG g n k).wd i x = g.wd ((i + k) % n) x := by
  have h := rot_row hF k hi
  unfold Gd.row at h
  unfold Gd.wd
  rw [h]
theorem mod_back {n k y : Nat} (hn : 0 < n) (hy : y < n) (hk : k < n) : ((y + (n - k)) % n + k) % n = y := by
  rw [Nat.mod_add_mod, show y + (n - k) + k = y + n by omega, Nat.add_mod_right, Nat.mod_eq_of_lt hy]
theorem mod_one {n k a b : Nat} (hk : k < n) (ha : a < n) (hb : b < n) (h : (a + k) % n = (b + k) % n) : a = b := by
  have h1 : ∀ x, x < n → (x + k) % n = if x + k < n then x + k else x + k - n := fun x hx => by
    split
    · rename_i h; exact Nat.mod_eq_of_lt h
    · rename_i h
      rw [Nat.mod_eq_sub_mod (by omega), Nat.mod_eq_of_lt (by omega)]
  rw [h1 a ha, h1 b hb] at h
  split at h <;> split at h <;> omega
/-- Where the line is behind the turn. -/
theorem rot_hold (hF : Fit g n m) {k y x : Nat} (hk : k < n) (hy : y < n) (hx : x < m) (hf : Fine g y x) (hu : ∀ i j : Nat, i < n → j < n → g.id i = g.id j → i = j) :
    ∃ z, z < n ∧ (z + k) % n = y ∧ holdV (rotG g n k) ⟨g.id y, y, x⟩ = ⟨g.id y, z, x⟩ ∧ (rotG g n k).id z = g.id y := by
  have hn := hF.n1
  obtain ⟨z, hz⟩ : ∃ z, (y + (n - k)) % n = z := ⟨_, rfl⟩
  have hzn : z < n := by rw [← hz]; exact Nat.mod_lt _ hn
  have hzk : (z + k) % n = y := by rw [← hz]; exact mod_back hn hy hk
  have hid : ∀ i, i < n → (rotG g n k).ids[i]? = some (g.id ((i + k) % n)) := fun i hi => by
    show (rotL 0 g.ids n k n)[i]? = _
    rw [rot_get _ _ _ _ hi]; rfl
  have hidz : (rotG g n k).id z = g.id y := by
    unfold Gd.id
    rw [List.getD_eq_getElem?_getD, hid z hzn, hzk]; rfl
  have hfind : findId (rotG g n k).ids (g.id y) = some z := by
    refine Go.Rev.find_at (by rw [hid z hzn, hzk]) (fun j hj h => ?_)
    have hjn : j < n := by omega
    rw [hid j hjn] at h
    have h2 := hu _ _ (Nat.mod_lt _ hn) hy (Option.some.inj h)
    have := mod_one hk hjn hzn (h2.trans hzk.symm)
    omega
  have hp : holdP (rotG g n k) ⟨g.id y, y, x⟩ = (z, x) := by
    unfold holdP
    simp only
    rw [hfind]
    unfold heldP
    rw [(rot_fit hF k).gn, (rot_fit hF k).gm, clampN_of hzn, clampN_of hx]
    simp only [Prod.mk.injEq, true_and]
    unfold heldX
    rw [rot_wd hF k hzn, rot_wd hF k hzn, hzk, if_neg hf]
  refine ⟨z, hzn, hzk, ?_, hidz⟩
  unfold holdV
  rw [hp, hidz]
end Go.Rev
namespace Go.Proofs.Ytcheljogpffabaa
open Go.RowKit Go.Mem Go.Words Go.Deep Go.Rev
theorem rem_at (nn : Int) {n : Nat} (h : 0 < n) : ∃ q : Nat, q < n ∧ (IntKind.u64.wrap nn).tmod (n : Int) = (q : Int) := by
  have h0 : 0 ≤ IntKind.u64.wrap nn := by unfold IntKind.wrap; simp [IntKind.signed, IntKind.bits]; omega
  refine ⟨((IntKind.u64.wrap nn).tmod (n : Int)).toNat, ?_, ?_⟩
  · rw [Int.tmod_eq_emod_of_nonneg h0]
    have := Int.emod_lt_of_pos (IntKind.u64.wrap nn) (show 0 < (n : Int) by omega)
    have := Int.emod_nonneg (IntKind.u64.wrap nn) (show (n : Int) ≠ 0 by omega)
    omega
  · rw [Int.tmod_eq_emod_of_nonneg h0]
    have := Int.emod_nonneg (IntKind.u64.wrap nn) (show (n : Int) ≠ 0 by omega)
    omega
def GA (W : World) (H : List HProp) (g : Gm) : Prop := GS W H g ∧ (∀ r ∈ g.gd.rows, size r ≤ 2000000) ∧ (gV g).all (·.oneCell') = true
end Go.Proofs.Ytcheljogpffabaa
