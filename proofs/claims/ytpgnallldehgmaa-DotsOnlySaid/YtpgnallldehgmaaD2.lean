/- Cells' runes: what cells show, and what a text shows, byte by byte. -/
import Derived.Test.YtpgnallldehgmaaSl
import Derived.Lib.DecodeN
import Derived.Laws.Cover4
namespace Go.Dots
open Go.Mem
def show1 (c : Nat) : List Nat := [226, 160 + c / 64, 128 + c % 64]
def showB (l : List Nat) : List Nat := l.flatMap show1
theorem encode1 : ∀ c < 256, (Utf8.encode ((10240 + c : Nat) : Int)).data.toList = (show1 c).map UInt8.ofNat := by decide +kernel
theorem runes_fold : ∀ (l : List Nat) (s : List Nat), (∀ c ∈ l, c < 256) → (l.map fun c => ((10240 + c : Nat) : Int)).foldl (fun r n => r ++ Utf8.encode n) (bs s) = bs (s ++ showB l)
  | [], s, _ => by simp [showB]
  | c :: l, s, h => by
    have e : Utf8.encode ((10240 + c : Nat) : Int) = bs (show1 c) := ba_ext (by rw [encode1 c (h c (by simp))]; simp [bs])
    simp only [List.map_cons, List.foldl_cons]
    rw [e, ← bs_append, runes_fold l _ (fun x hx => h x (by simp [hx]))]
    simp [showB]
theorem runes_show (l : List Nat) (h : ∀ c ∈ l, c < 256) : runesBytes (l.map fun c => ((10240 + c : Nat) : Int)) = bs (showB l) := by
  have := runes_fold l [] h
  rw [List.nil_append] at this
  exact this
/-! ## Read -/
def is3 (b0 b1 b2 : Nat) : Prop := b0 = 226 ∧ 160 ≤ b1 ∧ b1 ≤ 163 ∧ 128 ≤ b2 ∧ b2 ≤ 191
instance (a b c : Nat) : Decidable (is3 a b c) := inferInstanceAs (Decidable (_ ∧ _))
def val3 (b1 b2 : Nat) : Nat := (b1 - 160) * 64 + (b2 - 128)
def read : List Nat → Option (List Nat)
  | [] => some []
  | b0 :: b1 :: b2 :: l => if is3 b0 b1 b2 then (read l).map (val3 b1 b2 :: ·) else none
  | _ => none
set_option maxRecDepth 100000 in
theorem decode3 (n b0 b1 b2 b3 : Nat) (hn : 3 ≤ n) (h : is3 b0 b1 b2) : Lib.decodeN n b0 b1 b2 b3 = (10240 + val3 b1 b2, 3) := by
  obtain ⟨h0, h1, h2, h3, h4⟩ := h
  unfold Lib.decodeN val3
  rw [if_neg (by omega), if_neg (by omega), if_pos (by omega), if_pos (by omega)]
  congr 1
  omega
set_option maxRecDepth 100000 in
theorem decode3_only (n b0 b1 b2 b3 : Nat) (h0 : b0 < 256) (h1 : b1 < 256) (h2 : b2 < 256) (_h3 : b3 < 256) (h : 10240 ≤ (Lib.decodeN n b0 b1 b2 b3).1 ∧ (Lib.decodeN n b0 b1 b2 b3).1 ≤ 10495) : 3 ≤ n ∧ is3 b0 b1 b2 := by
  unfold Lib.decodeN at h
  unfold is3
  repeat' split at h
  all_goals simp only at h
  all_goals omega
theorem read_cons (b0 b1 b2 : Nat) (l : List Nat) : read (b0 :: b1 :: b2 :: l) = if is3 b0 b1 b2 then (read l).map (val3 b1 b2 :: ·) else none := by rw [read]
theorem showB_cons (c : Nat) (l : List Nat) : showB (c :: l) = 226 :: (160 + c / 64) :: (128 + c % 64) :: showB l := rfl
theorem val_show (c : Nat) : val3 (160 + c / 64) (128 + c % 64) = c := by unfold val3; omega
theorem is_show (c : Nat) (h : c < 256) : is3 226 (160 + c / 64) (128 + c % 64) := by unfold is3; omega
theorem read_show : ∀ (l : List Nat), (∀ c ∈ l, c < 256) → read (showB l) = some l
  | [], _ => by rw [show showB [] = [] from rfl, read]
  | c :: l, h => by
    rw [showB_cons, read_cons, if_pos (is_show c (h c (List.mem_cons_self ..))), read_show l (fun x hx => h x (List.mem_cons_of_mem _ hx)), val_show]
    rfl
set_option maxRecDepth 100000 in
theorem show_read : ∀ (s l : List Nat), read s = some l → showB l = s ∧ ∀ x ∈ l, x < 256
  | [], l, h => by cases h; simp [showB]
  | [_], l, h => by simp [read] at h
  | [_, _], l, h => by simp [read] at h
  | b0 :: b1 :: b2 :: s, l, h => by
    unfold read at h
    split at h
    · rename_i h3
      cases hr : read s with
      | none => rw [hr] at h; cases h
      | some m =>
        rw [hr] at h
        cases h
        obtain ⟨e, hb⟩ := show_read s m hr
        unfold is3 at h3
        have hv : val3 b1 b2 < 256 := by unfold val3; omega
        refine ⟨?_, fun x hx => ?_⟩
        · show show1 _ ++ showB m = _
          rw [e]
          unfold show1 val3
          rw [show 160 + ((b1 - 160) * 64 + (b2 - 128)) / 64 = b1 from by omega, show 128 + ((b1 - 160) * 64 + (b2 - 128)) % 64 = b2 from by omega, h3.1]
          rfl
        · rcases List.mem_cons.1 hx with rfl | hx
          · exact hv
          · exact hb x hx
    · cases h
end Go.Dots
