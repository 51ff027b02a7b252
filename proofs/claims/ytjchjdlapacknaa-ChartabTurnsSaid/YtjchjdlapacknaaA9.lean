import Derived.Test.YtjchjdlapacknaaA1
import Derived.Test.YtjchjdlapacknaaSr
import Derived.Test.YtjchjdlapacknaaSm
namespace Go.Proofs.Ytjchjdlapacknaa
open Go.RowKit Go.Mem Go.Maps
variable {W w : World} {H : List HProp}
attribute [local irreducible] World.setCell World.setCells World.alloc World.drew World.drewN Calls sat cel own blk old mp wpQuiet

def names1 : List (UInt8 × ByteArray) := [(46, ⟨#[100, 111, 116]⟩), (63, ⟨#[113, 117, 101, 115, 116, 105, 111, 110]⟩), (33, ⟨#[98, 97, 110, 103]⟩), (64, ⟨#[97, 116]⟩), (36, ⟨#[100, 111, 108, 108, 97, 114]⟩), (37, ⟨#[112, 101, 114, 99, 101, 110, 116]⟩), (38, ⟨#[97, 110, 100]⟩), (47, ⟨#[115, 108, 97, 115, 104]⟩), (35, ⟨#[110, 117, 109, 98, 101, 114]⟩), (42, ⟨#[115, 116, 97, 114]⟩), (43, ⟨#[112, 108, 117, 115]⟩), (61, ⟨#[101, 113, 117, 97, 108, 115]⟩)]
def names2 : List (UInt8 × ByteArray) := [(44, ⟨#[99, 111, 109, 109, 97]⟩), (59, ⟨#[115, 101, 109, 105, 99, 111, 108, 111, 110]⟩), (58, ⟨#[99, 111, 108, 111, 110]⟩), (45, ⟨#[100, 97, 115, 104]⟩), (95, ⟨#[108, 105, 110, 101]⟩), (60, ⟨#[108, 101, 115, 115]⟩), (62, ⟨#[103, 114, 101, 97, 116, 101, 114]⟩), (92, ⟨#[98, 97, 99, 107, 115, 108, 97, 115, 104]⟩), (124, ⟨#[98, 97, 114]⟩), (126, ⟨#[116, 105, 108, 100, 101]⟩), (94, ⟨#[99, 97, 114, 101, 116]⟩)]
def names3 : List (UInt8 × ByteArray) := [(40, ⟨#[108, 101, 102, 116, 32, 112, 97, 114, 101, 110]⟩), (41, ⟨#[114, 105, 103, 104, 116, 32, 112, 97, 114, 101, 110]⟩), (91, ⟨#[108, 101, 102, 116, 32, 98, 114, 97, 99, 107, 101, 116]⟩), (93, ⟨#[114, 105, 103, 104, 116, 32, 98, 114, 97, 99, 107, 101, 116]⟩), (123, ⟨#[108, 101, 102, 116, 32, 98, 114, 97, 99, 101]⟩), (125, ⟨#[114, 105, 103, 104, 116, 32, 98, 114, 97, 99, 101]⟩), (34, ⟨#[113, 117, 111, 116, 101]⟩), (39, ⟨#[116, 105, 99, 107]⟩), (96, ⟨#[103, 114, 97, 118, 101]⟩)]
def strs (ps : List (UInt8 × ByteArray)) : List Value := ps.flatMap fun p => [.string ⟨#[p.1]⟩, .string p.2]
def named (p : UInt8 × ByteArray) (level : Int) : Value := .agg #[.string p.2, .int .i64 level]
def addM (level : Int) (m : Int → Option Value) (ps : List (UInt8 × ByteArray)) : Int → Option Value := ps.foldl (fun m p => upd m (p.1.toNat : Int) (named p level)) m
def i32 (x : Int) : Value := .int .i32 x
theorem strs_length : ∀ ps, (strs ps).length = 2 * ps.length
  | [] => rfl
  | p :: ps => by
    have := strs_length ps
    simp only [strs, List.flatMap_cons, List.length_append, List.length_cons, List.length_nil] at this ⊢
    omega
def nd : UInt8 × ByteArray := (0, ⟨#[]⟩)
theorem strs_at : ∀ (ps : List (UInt8 × ByteArray)) (k : Nat), k < ps.length → (strs ps)[2 * k]? = some (.string ⟨#[(ps.getD k nd).1]⟩) ∧ (strs ps)[2 * k + 1]? = some (.string (ps.getD k nd).2)
  | p :: ps, 0, _ => ⟨rfl, rfl⟩
  | p :: ps, k + 1, h => by
    have ih := strs_at ps k (by simpa using h)
    show (Value.string ⟨#[p.1]⟩ :: .string p.2 :: strs ps)[2 * (k + 1)]? = some (.string ⟨#[(ps.getD k nd).1]⟩) ∧ (Value.string ⟨#[p.1]⟩ :: .string p.2 :: strs ps)[2 * (k + 1) + 1]? = some (.string (ps.getD k nd).2)
    rw [show 2 * (k + 1) = 2 * k + 1 + 1 from by omega, List.getElem?_cons_succ, List.getElem?_cons_succ, List.getElem?_cons_succ, List.getElem?_cons_succ]
    exact ih
theorem addM_step (level : Int) (m : Int → Option Value) (ps : List (UInt8 × ByteArray)) (k : Nat) (hk : k < ps.length) : addM level m (ps.take (k + 1)) = upd (addM level m (ps.take k)) ((ps.getD k nd).1.toNat : Int) (named (ps.getD k nd) level) := by
  rw [show ps.take (k + 1) = ps.take k ++ [ps[k]] from List.take_succ_eq_append_getElem hk]
  unfold addM
  rw [List.foldl_append, List.getD_eq_getElem?_getD, List.getElem?_eq_getElem hk]
  rfl
theorem keyed21 : Keyed Try.prog 21 := int_keyed Try.underlying21
theorem i32_inj (x y : Int) (h : i32 x = i32 y) : x = y := by unfold i32 at h; injection h
theorem byte_wf (c : UInt8) : (Lit.int .i32 (c.toNat : Int)).wf = true := by
  have : c.toNat < 256 := c.toNat_lt
  have h1 : IntKind.i32.min = -2147483648 := rfl
  have h2 : IntKind.i32.max = 2147483647 := rfl
  simp [Lit.wf, h1, h2]
  omega
theorem zero44 (w : World) : (zeroValue 44).run Try.prog w = .ok (.agg #[.string ⟨#[]⟩, .int .i64 0]) w := by kernel_rfl

set_option maxHeartbeats 1000000 in
theorem add41 (b g T cap : Nat) (level : Int) (m : Int → Option Value) (ps : List (UInt8 × ByteArray)) (hp : ps.length ≤ 100) (hs : sat W (mp Try.prog 21 i32 b m :: cel g T (strs ps) :: H) w) :
    Calls Try.prog 41 #[.map (some b), .int .i64 level, .slice (some ⟨g, 0, none⟩) (2 * ps.length) cap] w fun e w' => e = .returned (.tuple #[]) ∧ sat W (mp Try.prog 21 i32 b (addM level m ps) :: cel g T (strs ps) :: H) w' := by
  have HL := strs_length ps
  obtain ⟨n, hn⟩ : ∃ n, n = ps.length := ⟨_, rfl⟩
  have HA := Lib.hid (strs_at ps)
  have HS := Lib.hid (addM_step level m ps)
  rw [← hn] at HL hp HA HS ⊢
  have HN := Lib.hid hn
  clear hn
  obtain ⟨N, hN⟩ : ∃ N, N = 2 * n := ⟨_, rfl⟩
  rw [← hN] at HL ⊢
  have HH := Lib.hid hN
  clear hN
  go_enter Try.func41, Try.ntmps41
  go_wp2_with (first
    | (refine wrap hs ?_; clear hs; intro w hs)
    | (refine wrapn hs ?_; clear hs; intro w hs)
    | (refine wrapd hs ?_; clear hs; intro w hs))
  go_loopw [6] (fun i wr => ∃ k j : Nat, k ≤ n ∧ Hid (j = 2 * k) ∧ i = .int .i64 j ∧ sat W (mp Try.prog 21 i32 b (addM level m (ps.take k)) :: cel g T (strs ps) :: H) wr) (fun i _ => N - (intOf i).toNat)
  case atStart => exact ⟨0, 0, Nat.zero_le _, rfl, rfl, hs⟩
  case round =>
    clear hs
    obtain ⟨k, j, hk, hj, rfl, hs⟩ := hrel
    have hNN := HH.out
    have hjj := hj.out
    by_cases hlt : k < n
    · have hjn : (j : Int) + 1 < N := by omega
      have hjN : (j : Int) < N := by omega
      have h2 := HA.out k hlt
      have HT := Lib.hid (HS.out k hlt)
      rw [← hjj] at h2
      have hkn : k + 1 ≤ n := by omega
      have hj2 : Hid (j + 2 = 2 * (k + 1)) := by show j + 2 = 2 * (k + 1); omega
      have hN2 : (N : Int) ≤ 200 := by omega
      clear hjj hNN
      generalize ps.getD k nd = p at *
      obtain ⟨c, nm⟩ := p
      have H1 := Lib.hid h2.1
      have H2 := Lib.hid h2.2
      clear h2
      have hc : c.toNat < 256 := c.toNat_lt
      have HW := Lib.hid (show wrap32 (c.toNat : Int) = c.toNat from (Go.IntWalk.i32_left _).symm.trans (Go.IntWalk.i32_in _ (by omega)))
      go_wp2_with (first
    | ((try simp only [Act.put, List.setIfInBounds_toArray, List.set_cons_succ, List.set_cons_zero]); refine region_tail 14 hs (by kernel_rfl) (by kernel_rfl) ?_; simp only [List.take_succ_cons, List.take_zero, List.drop_succ_cons, List.drop_zero]; clear hs; intro w hs; (repeat (first | (apply ldt hs.b0; exact rfl; exact rfl; exact rfl; exact rfl; kernel_rfl; (try simp only [Act.put, List.setIfInBounds_toArray, List.set_cons_succ, List.set_cons_zero])) | (apply ldt hs.b1; exact rfl; exact rfl; exact rfl; exact H1.out; kernel_rfl; (try simp only [Act.put, List.setIfInBounds_toArray, List.set_cons_succ, List.set_cons_zero])) | (apply ldt hs.b1; exact rfl; exact rfl; exact rfl; exact H2.out; kernel_rfl; (try simp only [Act.put, List.setIfInBounds_toArray, List.set_cons_succ, List.set_cons_zero])) | go_big_quiet_step (fail))); refine wpQuiet_nil ?_)
    | (apply mu (y := (c.toNat : Int)) hs.b0; exact .inl rfl; exact rfl; exact rfl; exact congrArg (Value.int .i32) HW.out; exact rfl; exact keyed21; exact Try.underlying45; exact i32_inj; exact keyOf_int_mk Try.underlying21 (byte_wf _); clear hs; intro w hs)
    | (refine wrap hs ?_; clear hs; intro w hs)
    | (refine wrapn hs ?_; clear hs; intro w hs)
    | (refine wrapd hs ?_; clear hs; intro w hs))
      go_roundw
      case rel => exact ⟨k + 1, j + 2, hkn, hj2, by go_num, by rw [HT.out]; exact hs⟩
      case measure => simp [intOf]; omega
    · obtain rfl : k = n := by omega
      have HF := Lib.hid (show ps.take k = ps by rw [HN.out, List.take_length])
      have hjn : ¬ ((j : Int) + 1 < N) := by omega
      have hN2 : (N : Int) ≤ 200 := by omega
      have hj2 : (j : Int) ≤ 200 := by omega
      clear hjj hNN
      go_wp2_with (first
    | (refine wrap hs ?_; clear hs; intro w hs)
    | (refine wrapn hs ?_; clear hs; intro w hs)
    | (refine wrapd hs ?_; clear hs; intro w hs))
      refine end_end0 rfl rfl ?_
      exact ⟨rfl, by rw [HF.out] at hs; exact hs⟩
end Go.Proofs.Ytjchjdlapacknaa
