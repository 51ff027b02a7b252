/- Law 04: the acts of a text; the known ones. -/
import Derived.Test.YtojgdpccjlgmiaaK15
namespace Go.Proofs.Ytojgdpccjlgmiaa
open Go.RowKit Go.Mem Go.Parse
variable {W w : World} {H : List HProp}
theorem run_snoc (p : Ps) (l : List Int) (r : Int) : Parse.run p (l ++ [r]) = (feed (Parse.run p l) r).1 := by
  unfold Parse.run
  rw [List.foldl_append]
  rfl
theorem told_snoc : ∀ (l : List Int) (p : Ps) (r : Int), told p (l ++ [r]) = told p l ++ (feed (Parse.run p l) r).2
  | [], p, r => by simp [told, Parse.run]
  | x :: l, p, r => by
    have ih := told_snoc l (feed p x).1 r
    show (feed p x).2 ++ told (feed p x).1 (l ++ [r]) = ((feed p x).2 ++ told (feed p x).1 l) ++ _
    rw [ih, List.append_assoc]
    rfl
theorem told_len : ∀ (l : List Int) {p : Ps}, p.ok → (told p l).length ≤ 2 * l.length
  | [], _, _ => Nat.zero_le _
  | x :: l, p, h => by
    have ih := told_len l (feed_ok h x)
    have h2 := (feed_acts h x).2
    show ((feed p x).2 ++ told (feed p x).1 l).length ≤ _
    rw [List.length_append, List.length_cons]
    omega
theorem dec_lit {s : ByteArray} {l : List Nat} (h : (List.range s.size).all (fun i => Utf8.decode s i == (l.getD i 0, 1)) = true) (hl : l.length = s.size) (i : Nat) (hi : i < s.size) : ∃ r : Nat, Utf8.decode s i = (r, 1) ∧ (l.map (fun n : Nat => (n : Int)))[i]? = some (r : Int) := by
  have h1 := List.all_eq_true.1 h i (List.mem_range.2 hi)
  refine ⟨l.getD i 0, by simpa using h1, ?_⟩
  rw [List.getElem?_map, List.getElem?_eq_getElem (by omega), List.getD_eq_getElem?_getD, List.getElem?_eq_getElem (by omega)]
  rfl
theorem told_a : told Ps.new [27, 91, 63, 49, 59, 50, 53, 104] = [⟨4, 0, 63, [1, 25], [], 104, []⟩] := by decide +kernel
theorem told_b : told Ps.new [27, 40, 48] = [⟨3, 0, 0, [], [40], 48, []⟩] := by decide +kernel
theorem told_c : told Ps.new [27, 91, 49, 58, 50, 109, 120] = [⟨1, 120, 0, [], [], 0, []⟩] := by decide +kernel
theorem told_d : told Ps.new [27, 93, 48, 59, 97, 7] = [⟨5, 0, 0, [], [], 0, [48, 59, 97]⟩] := by decide +kernel
attribute [local irreducible] World.iter Utf8.decode told Parse.run feed
attribute [local irreducible] World.setCell World.setCells World.alloc World.drew World.drewN Calls sat cel own blk old wpQuiet wpList pm values digit next acs
variable {b : Nat} {st pr : Int} {L : PL} {I T : List Int} {ov : Bool} {p : Ps} {H : List HProp}
theorem told13 (s : ByteArray) (l : List Int) {X : List Ac} (hX : told Ps.new l = X) (hl : l.length = s.size) (hn : s.size ≤ 1000) (hd : ∀ i, i < s.size → ∃ r : Nat, Utf8.decode s i = (r, 1) ∧ l[i]? = some (r : Int)) (hs : sat W H w) :
    Calls Try.prog 13 #[.string s] w fun e w' => ∃ a c, e = .returned (.slice a X.length c) ∧ sat W (acs (.slice a X.length c) X :: H) w' := by
  have HL := Lib.hid hl
  have HD := Lib.hid hd
  have HX := Lib.hid hX
  clear hl hd hX
  go_enter Try.func13, Try.ntmps13
  go_wp2_with (first | (go_at_call 7; refine (new7 hs).mono ?_; clear hs; rintro e w ⟨z, rfl, hs⟩) | ((with_reducible refine isl ?_); first | ((with_reducible refine wrap hs ?_); clear hs; intro w hs) | ((with_reducible refine wrapn hs ?_); clear hs; intro w hs) | ((with_reducible refine wrapd hs ?_); clear hs; intro w hs)))
  have hs := sat.acs_nil (hs.iter s)
  generalize w.iter s 0 = w1 at *
  generalize w.heap.size = g at *
  go_loopw [4] (fun v4 wr => ∃ (p m : Nat) (a : Option Addr) (c : Nat) (Y : List Ac) (q : Ps), p ≤ s.size ∧ m ≤ 2 * p ∧ v4 = .slice a m c ∧ Hid (Y = told Ps.new (l.take p) ∧ q = Parse.run Ps.new (l.take p) ∧ q.ok ∧ Y.length = m) ∧ sat W (acs (.slice a m c) Y :: prs z q :: si g s p :: H) wr) (fun _ w' => s.size - w'.iterPos g)
  case atStart => exact ⟨0, 0, none, 0, [], Ps.new, Nat.zero_le _, Nat.zero_le _, rfl, Lib.hid ⟨by rw [List.take_zero]; unfold told; rfl, by rw [List.take_zero]; unfold Parse.run; rfl, Ps.new_ok, rfl⟩, by (refine sb_from ?_ hs; repeat constructor)⟩
  case round =>
    clear hs
    obtain ⟨p, m, a, c, Y, q, hp, hm, rfl, HY, hs⟩ := hrel
    have HI := Lib.hid (sat.iter_pos hs.b2)
    by_cases hlt : p < s.size
    · obtain ⟨r, hr1, hr2⟩ := HD.out p hlt
      have HV := Lib.hid hr1
      have HR := Lib.hid hr2
      obtain ⟨q', Z, hZ⟩ : ∃ q' Z, feed q (r : Int) = (q', Z) := ⟨_, _, rfl⟩
      obtain ⟨k, hk⟩ : ∃ k, Z.length = k := ⟨_, rfl⟩
      have hk2 : k ≤ 2 := by rw [← hk, show Z = (feed q r).2 by rw [hZ]]; exact (feed_acts HY.out.2.2.1 _).2
      have HF := Lib.hid (fun (H : List HProp) (w : World) (hs : sat W (prs z q :: H) w) => feed8 (r := (r : Int)) HY.out.2.2.1 hs)
      rw [hZ] at HF
      have HZ := Lib.hid hZ
      have HK := Lib.hid hk
      clear hr1 hr2 hZ hk
      go_wp2_with (first | (apply nxd hs.b2; exact rfl; exact rfl; exact rfl; exact hlt; exact HV.out; clear hs; intro w hs) | (go_at_call 8; refine (HF.out _ _ (by (apply sk_from (hs := hs); repeat constructor))).mono ?_; clear hs; rintro e w ⟨a5, c5, rfl, hs⟩; simp only [HK.out] at hs ⊢) | (apply appacs hs.b3; exact rfl; exact rfl; exact rfl; exact rfl; exact slty26; omega; clear hs; intro a6 c6 w hs) | (apply appacs hs.b2; exact rfl; exact rfl; exact rfl; exact rfl; exact slty26; omega; clear hs; intro a6 c6 w hs) | ((with_reducible refine isl ?_); first | ((with_reducible refine wrap hs ?_); clear hs; intro w hs) | ((with_reducible refine wrapn hs ?_); clear hs; intro w hs) | ((with_reducible refine wrapd hs ?_); clear hs; intro w hs)))
      go_roundw
      case rel => exact ⟨p + 1, m + k, a6, c6, Y ++ Z, q', by omega, by omega, by go_num, Lib.hid (by
        have e : l.take (p + 1) = l.take p ++ [(r : Int)] := by rw [List.take_add_one, HR.out]; rfl
        obtain ⟨h1, h2, h3, h4⟩ := HY.out
        refine ⟨?_, ?_, ?_, ?_⟩
        · rw [e, told_snoc, ← h1, ← h2, HZ.out]
        · rw [e, run_snoc, ← h2, HZ.out]
        · have := feed_ok h3 (r : Int); rw [HZ.out] at this; exact this
        · rw [List.length_append, h4, HK.out]), by (refine sb_from ?_ hs; repeat constructor)⟩
      case measure => rw [HI.out, sat.iter_pos (s := s) (pos := p + 1) (b := g) (H := _) (W := W) (by apply sk_from (hs := hs); repeat constructor)]; omega
    · have hpe : p = s.size := by omega
      obtain rfl : s.size = p := hpe.symm
      go_wp2_with (first | (apply nxe hs.b2; exact rfl; exact rfl; exact rfl; exact hlt) | ((with_reducible refine isl ?_); first | ((with_reducible refine wrap hs ?_); clear hs; intro w hs) | ((with_reducible refine wrapn hs ?_); clear hs; intro w hs) | ((with_reducible refine wrapd hs ?_); clear hs; intro w hs)))
      go_ret
      have hy : Y = X := by rw [HY.out.1, ← HL.out, List.take_length]; exact HX.out
      have hm2 := HY.out.2.2.2
      subst hy
      subst hm2
      exact ⟨a, c, rfl, by (refine sb_from ?_ hs; repeat constructor)⟩
end Go.Proofs.Ytojgdpccjlgmiaa
