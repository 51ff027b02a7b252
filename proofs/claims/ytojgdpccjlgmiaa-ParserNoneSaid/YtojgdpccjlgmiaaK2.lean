/- Law 04: the parser in memory; the numbers' functions. -/
import Derived.Test.YtojgdpccjlgmiaaK1
import Derived.Test.YtojgdpccjlgmiaaSd
import Derived.Test.YtojgdpccjlgmiaaSs
import Derived.Test.YtojgdpccjlgmiaaSz
import Derived.Test.YtojgdpccjlgmiaaSy
import Derived.Test.YtojgdpccjlgmiaaSu
import Derived.Test.YtojgdpccjlgmiaaSp
import Derived.Test.YtojgdpccjlgmiaaSx
import Derived.Test.YtojgdpccjlgmiaaSv
import Derived.Test.YtojgdpccjlgmiaaSr
import Derived.Test.YtojgdpccjlgmiaaSl
import Derived.Test.YtojgdpccjlgmiaaProg
namespace Go.Proofs.Ytojgdpccjlgmiaa
open Go.RowKit Go.Mem Go.Parse
variable {W w : World} {H : List HProp}
/-- The parser's cells: two, the numbers, others. -/
def pm (A0 A1 : Value) (L : PL) (B : List Value) : List Value := A0 :: A1 :: (L.l.map (Value.int .i64) ++ (.int .i64 L.n :: .bool L.full :: B))
section
variable {A0 A1 : Value} {L : PL} {B : List Value}
theorem pm_n (h : L.l.length = 32) : (pm A0 A1 L B)[34]? = some (.int .i64 L.n) := by simp [pm, h, List.getElem?_append]
theorem pm_full (h : L.l.length = 32) : (pm A0 A1 L B)[35]? = some (.bool L.full) := by simp [pm, h, List.getElem?_append]
theorem pm_x (h : L.l.length = 32) {i : Nat} (hi : i < 32) : (pm A0 A1 L B)[2 + i]? = some (.int .i64 (L.l.getD i 0)) := by
  rw [Nat.add_comm]
  simp [pm, h, List.getElem?_append, hi]
theorem pm_setn (h : L.l.length = 32) (n : Nat) : (pm A0 A1 L B).set 34 (.int .i64 n) = pm A0 A1 { L with n := n } B := by simp [pm, List.set_append, h]
theorem pm_setf (h : L.l.length = 32) (f : Bool) : (pm A0 A1 L B).set 35 (.bool f) = pm A0 A1 { L with full := f } B := by simp [pm, List.set_append, h]
theorem pm_setx (h : L.l.length = 32) {i : Nat} (hi : i < 32) (x : Int) : (pm A0 A1 L B).set (2 + i) (.int .i64 x) = pm A0 A1 { L with l := L.l.set i x } B := by
  rw [Nat.add_comm]
  simp [pm, List.set_append, h, hi, List.map_set]
theorem pm_len (h : L.l.length = 32) : (pm A0 A1 L B).length = 36 + B.length := by simp [pm, h]; omega
end
theorem spl_mid : ∀ (vs p q r : List Value), q.length = vs.length → spl (p ++ (q ++ r)) p.length vs = p ++ (vs ++ r)
  | [], p, [], r, _ => rfl
  | v :: vs, p, x :: q, r, h => by
    have ih := spl_mid vs (p ++ [v]) q r (by simpa using h)
    unfold spl
    have e : (p ++ (x :: q ++ r)).set p.length v = (p ++ [v]) ++ (q ++ r) := by simp [List.set_append]
    rw [e]
    simpa using ih
theorem spl_clear {A0 A1 : Value} {L : PL} {B : List Value} (h : L.l.length = 32) : spl (pm A0 A1 L B) 2 (List.replicate 33 (Value.int .i64 0) ++ [.bool false]) = pm A0 A1 PL.new B := by
  have := spl_mid (List.replicate 33 (Value.int .i64 0) ++ [.bool false]) [A0, A1] (L.l.map (Value.int .i64) ++ [.int .i64 L.n, .bool L.full]) B (by simp [h])
  have e : pm A0 A1 L B = [A0, A1] ++ (L.l.map (Value.int .i64) ++ [.int .i64 L.n, .bool L.full] ++ B) := by simp [pm]
  rw [e]
  exact this
theorem reads_par {A0 A1 : Value} {L : PL} {B : List Value} {b : Nat} (ok : L.ok) (hs : sat W (cel b 40 (pm A0 A1 L B) :: H) w) : Reads w (.slice (some ⟨b, 2, none⟩) L.n L.n) ((values L).map (Value.int .i64)) := by
  have hl := values_len ok
  refine ⟨by rw [List.length_map, hl]; have := ok.2.1; unfold maxLen; omega, some ⟨b, 2, none⟩, L.n, by rw [List.length_map, hl], fun _ => ⟨b, 2, rfl, fun i u hu => ?_⟩⟩
  rw [List.getElem?_map] at hu
  obtain ⟨x, hx, rfl⟩ := Option.map_eq_some_iff.1 hu
  have hi : i < L.n := by rw [← hl]; exact (List.getElem?_eq_some_iff.1 hx).1
  have h32 : i < 32 := by have := ok.2.1; omega
  refine hs.cel_cell ((pm_x ok.1 h32).trans ?_)
  unfold values at hx
  rw [List.getElem?_take, if_pos hi] at hx
  rw [List.getD_eq_getElem?_getD, hx]
  rfl
theorem one3 : oneTy Try.prog 3 = true := by kernel_rfl
theorem one4 : oneTy Try.prog 4 = true := by kernel_rfl
theorem one5 : oneTy Try.prog 5 = true := by kernel_rfl
theorem one21 : oneTy Try.prog 21 = true := by kernel_rfl
theorem one22 : oneTy Try.prog 22 = true := by kernel_rfl
theorem row38 : rowTy Try.prog 38 34 = true := by kernel_rfl
theorem row33 : rowTy Try.prog 33 7 = true := by kernel_rfl
theorem slty31 : SlTy Try.prog 31 3 1 8 := ⟨Try.underlying31, by obtain ⟨i0, hi, hz0, hz1, hz2⟩ := info_parts (show (Try.prog.info? 3).map (fun i => (i.zero, i.size, i.bytes)) = some (some (.int .i64 0), 1, 8) by kernel_rfl); exact ⟨i0, _, hi, hz0, hz1, hz2, rfl⟩, by decide⟩
theorem slty22 : SlTy Try.prog 22 21 1 4 := ⟨Try.underlying22, by obtain ⟨i0, hi, hz0, hz1, hz2⟩ := info_parts (show (Try.prog.info? 21).map (fun i => (i.zero, i.size, i.bytes)) = some (some (.int .i32 0), 1, 4) by kernel_rfl); exact ⟨i0, _, hi, hz0, hz1, hz2, rfl⟩, by decide⟩
attribute [local irreducible] World.setCell World.setCells World.alloc World.drew World.drewN Calls sat cel own blk old wpQuiet wpList pm values digit next
variable {b : Nat} {A0 A1 : Value} {L : PL} {B : List Value}
theorem clear32 (hl : L.l.length = 32) (hs : sat W (cel b 40 (pm A0 A1 L B) :: H) w) :
    Calls Try.prog 32 #[.pointer (some ⟨b, 2, none⟩)] w fun e w' => e = .returned (.tuple #[]) ∧ sat W (cel b 40 (pm A0 A1 PL.new B) :: H) w' := by
  have HI : Hid (2 + 34 ≤ (pm A0 A1 L B).length) := Lib.hid (by rw [pm_len hl]; omega)
  have HE := Lib.hid (spl_clear (A0 := A0) (A1 := A1) (B := B) hl)
  clear hl
  go_enter Try.func32, Try.ntmps32
  go_wp2_with ((with_reducible apply sts hs.b0); exact rfl; exact rfl; exact rfl; exact rfl; exact row38; exact HI.out; exact rfl; exact rfl; clear hs; intro w hs)
  refine end_end0 rfl rfl ?_
  rw [← HE.out]
  exact ⟨rfl, hs⟩
theorem list36 (ok : L.ok) (hs : sat W (cel b 40 (pm A0 A1 L B) :: H) w) :
    Calls Try.prog 36 #[.pointer (some ⟨b, 2, none⟩)] w fun e w' => e = .returned (.slice (some ⟨b, 2, none⟩) L.n L.n) ∧ sat W (cel b 40 (pm A0 A1 L B) :: H) w' := by
  have hn : (L.n : Int) ≤ 32 := by have := ok.2.1; omega
  have HN := Lib.hid (pm_n (A0 := A0) (A1 := A1) (B := B) ok.1)
  clear ok
  go_enter Try.func36, Try.ntmps36
  go_wp2_with fail
  ((try simp only [Act.put, List.setIfInBounds_toArray, List.set_cons_succ, List.set_cons_zero]); refine region_sat hs (by kernel_rfl) (by kernel_rfl) ?_; intro X f hne hf hcl; (repeat ((first | ((with_reducible apply ldq (fun x => (hf x).b0)); exact rfl; exact rfl; exact rfl; exact HN.out; exact one3) | go_big_quiet_step (fail)); (try simp only [Act.put, List.setIfInBounds_toArray, List.set_cons_succ, List.set_cons_zero]))); refine wpQuiet_nil ?_; clear hcl hf hne hs f X; intro w hs)
  go_wp2_with fail
  go_ret
  exact ⟨rfl, hs⟩
theorem values33 (ok : L.ok) (hs : sat W (cel b 40 (pm A0 A1 L B) :: H) w) :
    Calls Try.prog 33 #[.pointer (some ⟨b, 2, none⟩)] w fun e w' => ∃ a c, e = .returned (.slice a (values L).length c) ∧ sat W (own 3 1 (.slice a (values L).length c) (values L).length ((values L).map (Value.int .i64)) :: cel b 40 (pm A0 A1 L B) :: H) w' := by
  have HOK := Lib.hid ok
  have HL : Hid (((values L).map (Value.int .i64)).length = (values L).length) := Lib.hid (List.length_map _)
  have hb : (values L).length ≤ 32 := by rw [values_len ok]; exact ok.2.1
  replace hs := hs.own_nil 3 1
  obtain ⟨k, hk⟩ : ∃ k, (values L).length = k := ⟨_, rfl⟩
  rw [hk] at HL hb ⊢
  clear hk ok
  go_enter Try.func33, Try.ntmps33
  go_wp2_with (first | (go_at_call 36; refine (list36 HOK.out hs.b1).mono ?_; clear hs; rintro e w ⟨rfl, hs⟩) | ((with_reducible refine isl ?_); first | ((with_reducible apply apprm hs.b1); exact rfl; exact rfl; exact rfl; exact rfl; exact slty31; exact reads_par HOK.out hs; exact ints_ok; exact HL.out; omega; (unfold maxLen; omega); clear hs; intro a5 c5 w hs) | ((with_reducible refine wrap hs ?_); clear hs; intro w hs) | ((with_reducible refine wrapn hs ?_); clear hs; intro w hs) | ((with_reducible refine wrapd hs ?_); clear hs; intro w hs)))
  go_ret
  rw [Nat.zero_add, List.nil_append] at hs
  exact ⟨_, _, rfl, hs⟩
theorem next34 (ok : L.ok) (hs : sat W (cel b 40 (pm A0 A1 L B) :: H) w) :
    Calls Try.prog 34 #[.pointer (some ⟨b, 2, none⟩)] w fun e w' => e = .returned (.tuple #[]) ∧ sat W (cel b 40 (pm A0 A1 (Parse.next L) B) :: H) w' := by
  have hn : (L.n : Int) ≤ 32 := by have := ok.2.1; omega
  have HN := Lib.hid (pm_n (A0 := A0) (A1 := A1) (B := B) ok.1)
  have HF := Lib.hid (pm_full (A0 := A0) (A1 := A1) (B := B) ok.1)
  have HN1 : Hid ((pm A0 A1 L B)[34]?.isSome = true) := Lib.hid (by rw [HN.out]; rfl)
  have HF1 : Hid ((pm A0 A1 L B)[35]?.isSome = true) := Lib.hid (by rw [HF.out]; rfl)
  by_cases h : L.n = 32
  · have e : Parse.next L = { L with full := true } := by unfold Parse.next; rw [if_pos h]
    rw [e]
    have h2 : ((L.n : Int) == 32) = true := by rw [h]; rfl
    have hl := Lib.hid ok.1
    clear ok e h
    go_enter Try.func34, Try.ntmps34
    go_wp2_with (first | ((with_reducible apply ld hs.b0); exact rfl; exact rfl; exact rfl; exact HN.out; exact one3) | ((with_reducible apply stc hs.b0); exact rfl; exact rfl; exact rfl; exact rfl; exact HF1.out; exact one4; exact rfl; clear hs; intro w hs))
    refine end_end0 rfl rfl ?_
    rw [pm_setf hl.out] at hs
    exact ⟨rfl, hs⟩
  · have e : Parse.next L = { L with n := max L.n 1 + 1 } := by unfold Parse.next; rw [if_neg h]
    rw [e]
    have h2 : ((L.n : Int) == 32) = false := by simp; omega
    have hl := Lib.hid ok.1
    have HX : Hid ((if (L.n : Int) < 1 then 1 else (L.n : Int)) + 1 = ((max L.n 1 + 1 : Nat) : Int)) := Lib.hid (by split <;> omega)
    clear ok e h
    go_enter Try.func34, Try.ntmps34
    go_wp2_with (first | ((with_reducible apply ld hs.b0); exact rfl; exact rfl; exact rfl; exact HN.out; exact one3) | ((with_reducible apply st hs.b0); exact rfl; exact rfl; exact rfl; exact rfl; exact rfl; exact HN1.out; exact one3; exact rfl; clear hs; intro w hs))
    all_goals
      refine end_end0 rfl rfl ?_
      rw [HX.out, pm_setn hl.out] at hs
      exact ⟨rfl, hs⟩
theorem digit35_no (ok : L.ok) {d : Int} (hd : d < 0 ∨ 9 < d ∨ L.full = true) (hs : sat W (cel b 40 (pm A0 A1 L B) :: H) w) :
    Calls Try.prog 35 #[.pointer (some ⟨b, 2, none⟩), .int .i64 d] w fun e w' => e = .returned (.tuple #[]) ∧ sat W (cel b 40 (pm A0 A1 L B) :: H) w' := by
  have HF := Lib.hid (pm_full (A0 := A0) (A1 := A1) (B := B) ok.1)
  clear ok
  by_cases h1 : d < 0
  · clear hd
    go_enter Try.func35, Try.ntmps35
    go_wp2_with fail
    refine end_ret0 rfl rfl ?_
    exact ⟨rfl, hs⟩
  · by_cases h2 : 9 < d
    · clear hd
      go_enter Try.func35, Try.ntmps35
      go_wp2_with fail
      refine end_ret0 rfl rfl ?_
      exact ⟨rfl, hs⟩
    · have h3 : L.full = true := (hd.resolve_left h1).resolve_left h2
      rw [h3] at HF
      clear hd h3
      go_enter Try.func35, Try.ntmps35
      go_wp2_with ((with_reducible apply ld hs.b0); exact rfl; exact rfl; exact rfl; exact HF.out; exact one4)
      refine end_ret0 rfl rfl ?_
      exact ⟨rfl, hs⟩
theorem digit35_yes (ok : L.ok) {d : Int} (hd0 : 0 ≤ d) (hd9 : d ≤ 9) (hf : L.full = false) (hs : sat W (cel b 40 (pm A0 A1 L B) :: H) w) :
    Calls Try.prog 35 #[.pointer (some ⟨b, 2, none⟩), .int .i64 d] w fun e w' => e = .returned (.tuple #[]) ∧ sat W (cel b 40 (pm A0 A1 { l := L.l.set (max L.n 1 - 1) (min (L.l.getD (max L.n 1 - 1) 0 * 10 + d) 65535), n := max L.n 1, full := L.full } B) :: H) w' := by
  have HF := Lib.hid (pm_full (A0 := A0) (A1 := A1) (B := B) ok.1)
  rw [hf] at HF
  have HN := Lib.hid (pm_n (A0 := A0) (A1 := A1) (B := B) ok.1)
  have HN1 : Hid ((pm A0 A1 L B)[34]?.isSome = true) := Lib.hid (by rw [HN.out]; rfl)
  have hl := Lib.hid ok.1
  have h32 := ok.2.1
  obtain ⟨m, hm⟩ : ∃ m, max L.n 1 = m := ⟨_, rfl⟩
  have hm1 : 1 ≤ m := by omega
  have hm2 : m ≤ 32 := by omega
  have HX : Hid ((if (L.n : Int) < 1 then 1 else (L.n : Int)) = (m : Int)) := Lib.hid (by split <;> omega)
  rw [hm]
  have HS := Lib.hid (pm_setn (A0 := A0) (A1 := A1) (B := B) ok.1 m)
  have HM := Lib.hid (pm_n (A0 := A0) (A1 := A1) (B := B) (L := { L with n := m }) ok.1)
  obtain ⟨k, hk⟩ : ∃ k, m - 1 = k := ⟨_, rfl⟩
  have hk2 : (m : Int) - 1 = (k : Int) := by omega
  have hk32 : k < 32 := by omega
  rw [hk]
  have HK := Lib.hid (pm_x (A0 := A0) (A1 := A1) (B := B) (L := { L with n := m }) ok.1 hk32)
  obtain ⟨x, hx⟩ : ∃ x, L.l.getD k 0 = x := ⟨_, rfl⟩
  have hxb := PL.getD_bd ok k
  rw [hx] at hxb
  simp only at HK
  rw [hx] at HK ⊢
  have HK1 : Hid ((pm A0 A1 { L with n := m } B)[2 + k]?.isSome = true) := Lib.hid (by rw [HK.out]; rfl)
  have HY : Hid ((if 65535 < x * 10 + d then 65535 else x * 10 + d) = min (x * 10 + d) 65535) := Lib.hid (by split <;> omega)
  have HZ := Lib.hid (pm_setx (A0 := A0) (A1 := A1) (B := B) (L := { L with n := m }) ok.1 hk32 (min (x * 10 + d) 65535))
  have h1 : ¬ d < 0 := by omega
  have h2 : ¬ 9 < d := by omega
  clear ok hf hm hk hx hd0 hd9
  go_enter Try.func35, Try.ntmps35
  go_wp2_with (first | ((with_reducible apply ld hs.b0); exact rfl; exact rfl; exact rfl; exact HF.out; exact one4) | ((with_reducible apply ld hs.b0); exact rfl; exact rfl; exact rfl; exact HN.out; exact one3) | ((with_reducible apply st hs.b0); exact rfl; exact rfl; exact rfl; exact rfl; exact rfl; exact HN1.out; exact one3; exact rfl; clear hs; intro w hs))
  all_goals
    rw [HX.out, HS.out] at hs
    ((try simp only [Act.put, List.setIfInBounds_toArray, List.set_cons_succ, List.set_cons_zero]); refine region_sat hs (by kernel_rfl) (by kernel_rfl) ?_; intro X f hne hf hcl; (repeat ((first | ((with_reducible apply ldq (fun x => (hf x).b0)); exact rfl; exact rfl; exact rfl; exact HM.out; exact one3) | go_big_quiet_step (fail)); (try simp only [Act.put, List.setIfInBounds_toArray, List.set_cons_succ, List.set_cons_zero]))); refine wpQuiet_nil ?_; clear hcl hf hne hs f X; intro w hs)
    go_wp2_with (first | ((with_reducible apply ld hs.b0); exact rfl; exact rfl; exact rfl; exact HK.out; exact one3) | ((with_reducible apply st hs.b0); exact rfl; exact rfl; exact rfl; exact rfl; exact rfl; exact HK1.out; exact one3; exact rfl; clear hs; intro w hs))
  all_goals
    refine end_end0 rfl rfl ?_
    rw [HY.out, HZ.out] at hs
    exact ⟨rfl, hs⟩
theorem digit35 (ok : L.ok) (d : Int) (hs : sat W (cel b 40 (pm A0 A1 L B) :: H) w) :
    Calls Try.prog 35 #[.pointer (some ⟨b, 2, none⟩), .int .i64 d] w fun e w' => e = .returned (.tuple #[]) ∧ sat W (cel b 40 (pm A0 A1 (digit L d) B) :: H) w' := by
  by_cases h : d < 0 ∨ 9 < d ∨ L.full = true
  · have e : digit L d = L := by unfold digit; rw [if_pos h]
    rw [e]
    exact digit35_no ok h hs
  · have e : digit L d = { l := L.l.set (max L.n 1 - 1) (min (L.l.getD (max L.n 1 - 1) 0 * 10 + d) 65535), n := max L.n 1, full := L.full } := by unfold digit; rw [if_neg h]
    rw [e]
    exact digit35_yes ok (by omega) (by omega) (by cases hf : L.full <;> simp_all) hs
end Go.Proofs.Ytojgdpccjlgmiaa
