/- Law 6: what is known. -/
import Derived.Test.YteoeeiinngpogaaV18
namespace Go.Proofs.Yteoeeiinngpogaa
open Go.RowKit Go.Mem Go.Cells
variable {W w : World} {H : List HProp}
def chC (c : C) : ByteArray := if c.w = 2 then ⟨#[46]⟩ else Utf8.encode c.r
def txtC (l : List C) : ByteArray := l.foldl (fun s c => s ++ chC c) ⟨#[]⟩
theorem txt_nil : txtC [] = ⟨#[]⟩ := rfl
theorem txt_snoc {l : List C} {i : Nat} {x : C} (h : l[i]? = some x) : txtC (l.take (i + 1)) = txtC (l.take i) ++ chC x := by
  unfold txtC
  rw [List.take_add_one, h, List.foldl_append]
  rfl
theorem ch_le (c : C) : (chC c).size ≤ 4 := by
  unfold chC
  split
  · decide
  · exact encode_size_le _
theorem txt_le (l : List C) : (txtC l).size ≤ 4 * l.length := by
  unfold txtC
  suffices h : ∀ s : ByteArray, (l.foldl (fun s c => s ++ chC c) s).size ≤ s.size + 4 * l.length by
    have h2 : _ ≤ 0 + 4 * l.length := h ⟨#[]⟩
    omega
  induction l with
  | nil => intro s; simp
  | cons c l ih =>
    intro s
    rw [List.foldl_cons]
    have h1 := ih (s ++ chC c)
    have h2 := ch_le c
    rw [ByteArray.size_append] at h1
    rw [List.length_cons]
    omega
attribute [local irreducible] World.setCell World.setCells World.alloc World.drew World.drewN Calls sat cel own blk old wpQuiet wpList cmb cmb1 rwP cls rws wi wh fst_ World.rangeAt Utf8.encode txtC
theorem runes32 {b n : Nat} {l : List C} (hn : l.length = n) (h0 : 0 < n) (h512 : n ≤ 1000) (h4 : ∀ c ∈ l, c.comb.length ≤ 4) (hs : sat W (rwP 55 b l :: H) w) : Calls Try.prog 32 #[.pointer (some ⟨b, 0, none⟩)] w fun e w' => e = .returned (.string (txtC l)) ∧ sat W (rwP 55 b l :: H) w' := by
  have HN0 := Lib.hid hn
  clear hn
  go_enter Try.func32, Try.ntmps32
  go_wp2_with (first | (go_at_call 11; refine (cells11 HN0.out h0 h512 h4 hs).mono ?_; clear hs; rintro e w ⟨a, p, rfl, hs⟩) | ((with_reducible refine isl ?_); first | ((with_reducible apply ld hs.b0); exact rfl; exact rfl; exact rfl; exact rfl; kernel_rfl) | ((with_reducible apply st hs.b0); exact rfl; exact rfl; exact rfl; exact rfl; exact rfl; exact rfl; kernel_rfl; exact rfl; clear hs; intro w hs) | ((with_reducible apply stc hs.b0); exact rfl; exact rfl; exact rfl; exact rfl; exact rfl; kernel_rfl; exact rfl; clear hs; intro w hs) | ((with_reducible refine wrap hs ?_); clear hs; intro w hs) | ((with_reducible refine wrapn hs ?_); clear hs; intro w hs) | ((with_reducible refine wrapd hs ?_); clear hs; intro w hs)))
  obtain ⟨ps, hps, hs⟩ := cls_open HN0.out hs
  have HP : Hid (ps.length = n ∧ ps.map (·.c) = l) := Lib.hid ⟨by rw [← HN0.out, ← hps, List.length_map], hps⟩
  obtain ⟨g, rfl⟩ := own_ptr h0 hs
  clear hps
  go_loopw [3, 9] (fun s i wx => ∃ i0 : Nat, i0 ≤ n ∧ i = .int .i64 (i0 : Int) ∧ s = .string (txtC (l.take i0)) ∧ sat W (own 41 6 (.slice (some ⟨g, 0, none⟩) n p) n (rws ps).flatten :: cmb ps :: rwP 55 b l :: H) wx) (fun _ i _ => ((n : Int) - intOf i).toNat)
  case atStart => exact ⟨0, Nat.zero_le _, rfl, by rw [List.take_zero, txt_nil], hs⟩
  case round =>
    clear hs
    obtain ⟨i0, hi, rfl, rfl, hs⟩ := hrel
    by_cases hin : i0 < n
    · obtain ⟨x, hx⟩ : ∃ x, ps[i0]? = some x := ⟨_, List.getElem?_eq_getElem (by rw [HP.out.1]; exact hin)⟩
      have hcx : l[i0]? = some x.c := by rw [← HP.out.2, List.getElem?_map, hx]; rfl
      have HX := Lib.hid (rws_get hx)
      have HT := Lib.hid (txt_snoc hcx)
      have hl1 := txt_le (l.take i0)
      rw [List.length_take] at hl1
      obtain ⟨S, hS⟩ : ∃ S, txtC (l.take i0) = S := ⟨_, rfl⟩
      rw [hS] at hl1 HT
      rw [hS]
      clear hx hcx hS
      by_cases hw2 : x.c.w = 2
      · have HC : Hid (chC x.c = ⟨#[46]⟩) := Lib.hid (by unfold chC; rw [if_pos hw2])
        have hb : ¬ 9223372036854775807 < S.size + (⟨#[46]⟩ : ByteArray).size := by show ¬ 9223372036854775807 < S.size + 1; omega
        go_wp2_with (first | (first | ((with_reducible apply ldor hs.b0); exact rfl; exact rfl; exact rfl; exact HX.out; exact rws6 _; exact row41) | ((with_reducible apply ldor hs.b1); exact rfl; exact rfl; exact rfl; exact HX.out; exact rws6 _; exact row41) | ((with_reducible apply ldor hs.b2); exact rfl; exact rfl; exact rfl; exact HX.out; exact rws6 _; exact row41)) | ((with_reducible refine isl ?_); first | ((with_reducible apply stsw hs.b0); exact rfl; exact rfl; exact rfl; exact rfl; exact row41; exact rfl; exact rfl; exact rfl; clear hs; intro w hs) | ((with_reducible apply stsw hs.b1); exact rfl; exact rfl; exact rfl; exact rfl; exact row41; exact rfl; exact rfl; exact rfl; clear hs; intro w hs) | ((with_reducible apply stsw hs.b2); exact rfl; exact rfl; exact rfl; exact rfl; exact row41; exact rfl; exact rfl; exact rfl; clear hs; intro w hs) | ((with_reducible apply ld hs.b0); exact rfl; exact rfl; exact rfl; exact rfl; kernel_rfl) | ((with_reducible apply ld hs.b1); exact rfl; exact rfl; exact rfl; exact rfl; kernel_rfl) | ((with_reducible apply st hs.b0); exact rfl; exact rfl; exact rfl; exact rfl; exact rfl; exact rfl; kernel_rfl; exact rfl; clear hs; intro w hs) | ((with_reducible apply st hs.b1); exact rfl; exact rfl; exact rfl; exact rfl; exact rfl; exact rfl; kernel_rfl; exact rfl; clear hs; intro w hs) | ((with_reducible apply stc hs.b0); exact rfl; exact rfl; exact rfl; exact rfl; exact rfl; kernel_rfl; exact rfl; clear hs; intro w hs) | ((with_reducible apply stc hs.b1); exact rfl; exact rfl; exact rfl; exact rfl; exact rfl; kernel_rfl; exact rfl; clear hs; intro w hs) | ((with_reducible refine wrap hs ?_); clear hs; intro w hs) | ((with_reducible refine wrapn hs ?_); clear hs; intro w hs) | ((with_reducible refine wrapd hs ?_); clear hs; intro w hs)))
        go_roundw
        case rel => exact ⟨i0 + 1, by omega, by go_num, by rw [HT.out, HC.out], by refine sb_from ?_ hs; repeat constructor⟩
        case measure => simp [intOf]; omega
      · have HC : Hid (chC x.c = Utf8.encode x.c.r) := Lib.hid (by unfold chC; rw [if_neg hw2])
        have hle := encode_size_le x.c.r
        have hb : ¬ 9223372036854775807 < S.size + (Utf8.encode x.c.r).size := by omega
        clear hle
        go_wp2_with (first | (first | ((with_reducible apply ldor hs.b0); exact rfl; exact rfl; exact rfl; exact HX.out; exact rws6 _; exact row41) | ((with_reducible apply ldor hs.b1); exact rfl; exact rfl; exact rfl; exact HX.out; exact rws6 _; exact row41) | ((with_reducible apply ldor hs.b2); exact rfl; exact rfl; exact rfl; exact HX.out; exact rws6 _; exact row41)) | ((with_reducible refine isl ?_); first | ((with_reducible apply stsw hs.b0); exact rfl; exact rfl; exact rfl; exact rfl; exact row41; exact rfl; exact rfl; exact rfl; clear hs; intro w hs) | ((with_reducible apply stsw hs.b1); exact rfl; exact rfl; exact rfl; exact rfl; exact row41; exact rfl; exact rfl; exact rfl; clear hs; intro w hs) | ((with_reducible apply stsw hs.b2); exact rfl; exact rfl; exact rfl; exact rfl; exact row41; exact rfl; exact rfl; exact rfl; clear hs; intro w hs) | ((with_reducible apply ld hs.b0); exact rfl; exact rfl; exact rfl; exact rfl; kernel_rfl) | ((with_reducible apply ld hs.b1); exact rfl; exact rfl; exact rfl; exact rfl; kernel_rfl) | ((with_reducible apply st hs.b0); exact rfl; exact rfl; exact rfl; exact rfl; exact rfl; exact rfl; kernel_rfl; exact rfl; clear hs; intro w hs) | ((with_reducible apply st hs.b1); exact rfl; exact rfl; exact rfl; exact rfl; exact rfl; exact rfl; kernel_rfl; exact rfl; clear hs; intro w hs) | ((with_reducible apply stc hs.b0); exact rfl; exact rfl; exact rfl; exact rfl; exact rfl; kernel_rfl; exact rfl; clear hs; intro w hs) | ((with_reducible apply stc hs.b1); exact rfl; exact rfl; exact rfl; exact rfl; exact rfl; kernel_rfl; exact rfl; clear hs; intro w hs) | ((with_reducible refine wrap hs ?_); clear hs; intro w hs) | ((with_reducible refine wrapn hs ?_); clear hs; intro w hs) | ((with_reducible refine wrapd hs ?_); clear hs; intro w hs)))
        go_roundw
        case rel => exact ⟨i0 + 1, by omega, by go_num, by rw [HT.out, HC.out], by refine sb_from ?_ hs; repeat constructor⟩
        case measure => simp [intOf]; omega
    · have hge : ¬ (i0 : Int) < (n : Int) := by omega
      have HR : Hid (txtC (l.take i0) = txtC l) := Lib.hid (by rw [List.take_of_length_le (by rw [HN0.out]; omega)])
      clear hin
      go_wp2_with (first | ((with_reducible refine isl ?_); first | ((with_reducible apply ld hs.b0); exact rfl; exact rfl; exact rfl; exact rfl; kernel_rfl) | ((with_reducible apply ld hs.b1); exact rfl; exact rfl; exact rfl; exact rfl; kernel_rfl) | ((with_reducible apply st hs.b0); exact rfl; exact rfl; exact rfl; exact rfl; exact rfl; exact rfl; kernel_rfl; exact rfl; clear hs; intro w hs) | ((with_reducible apply st hs.b1); exact rfl; exact rfl; exact rfl; exact rfl; exact rfl; exact rfl; kernel_rfl; exact rfl; clear hs; intro w hs) | ((with_reducible apply stc hs.b0); exact rfl; exact rfl; exact rfl; exact rfl; exact rfl; kernel_rfl; exact rfl; clear hs; intro w hs) | ((with_reducible apply stc hs.b1); exact rfl; exact rfl; exact rfl; exact rfl; exact rfl; kernel_rfl; exact rfl; clear hs; intro w hs) | ((with_reducible refine wrap hs ?_); clear hs; intro w hs) | ((with_reducible refine wrapn hs ?_); clear hs; intro w hs) | ((with_reducible refine wrapd hs ?_); clear hs; intro w hs)))
      go_ret
      exact ⟨by rw [HR.out]; rfl, by refine sb_from ?_ hs; repeat constructor⟩

abbrev four0 : List C := [bC At.z, bC At.z, bC At.z, bC At.z]
abbrev four1 : List C := [⟨97, [], 0, At.z⟩, bC At.z, bC At.z, bC At.z]
abbrev four2 : List C := [⟨97, [], 0, At.z⟩, ⟨19968, [], 1, At.z⟩, ⟨0, [], 2, At.z⟩, bC At.z]
abbrev fourL : List C := [⟨97, [], 0, At.z⟩, ⟨19968, [], 1, At.z⟩, ⟨0, [], 2, At.z⟩, ⟨98, [], 0, At.z⟩]
theorem put22_lit {b : Nat} {l m : List C} {k x : Int} {wide : Bool} (e : putG l k x wide At.z = (m, 0)) (hn : l.length = 4) (hs : sat W (rwP 55 b l :: H) w) : Calls Try.prog 22 #[.pointer (some ⟨b, 0, none⟩), .int .i64 k, .int .i32 x, .bool wide, aV At.z] w fun e w' => e = .returned (.int .i64 0) ∧ sat W (rwP 55 b m :: H) w' := by
  have h := put22 (k := k) (x := x) (wide := wide) (at_ := At.z) hn (by decide) (by decide) hs
  rw [e] at h
  exact h
theorem new7_4 (hs : sat W H w) : Calls Try.prog 7 #[.int .i64 4] w fun e w' => ∃ b, e = .returned (.tuple #[.pointer (some ⟨b, 0, none⟩), .int .i64 0]) ∧ sat W (rwP 55 b four0 :: H) w' := new7 (n := 4) (by decide) (by decide) hs
theorem four31 (hs : sat W H w) : Calls Try.prog 31 #[] w fun e w' => ∃ b, e = .returned (.tuple #[.pointer (some ⟨b, 0, none⟩), .bool true]) ∧ sat W (rwP 55 b fourL :: H) w' := by
  have e1 : Hid (putG four0 0 97 false At.z = (four1, 0)) := Lib.hid (by kernel_rfl)
  have e2 : Hid (putG four1 1 19968 true At.z = (four2, 0)) := Lib.hid (by kernel_rfl)
  have e3 : Hid (putG four2 3 98 false At.z = (fourL, 0)) := Lib.hid (by kernel_rfl)
  go_enter Try.func31, Try.ntmps31
  go_wp2_with (first | (go_at_call 7; refine (new7_4 hs).mono ?_; clear hs; rintro e w ⟨b, rfl, hs⟩) | (go_at_call 22; refine (put22_lit e1.out rfl hs).mono ?_; clear hs; rintro e w ⟨rfl, hs⟩) | (go_at_call 22; refine (put22_lit e2.out rfl hs).mono ?_; clear hs; rintro e w ⟨rfl, hs⟩) | (go_at_call 22; refine (put22_lit e3.out rfl hs).mono ?_; clear hs; rintro e w ⟨rfl, hs⟩) | ((with_reducible refine isl ?_); first | ((with_reducible apply ld hs.b0); exact rfl; exact rfl; exact rfl; exact rfl; kernel_rfl) | ((with_reducible apply st hs.b0); exact rfl; exact rfl; exact rfl; exact rfl; exact rfl; exact rfl; kernel_rfl; exact rfl; clear hs; intro w hs) | ((with_reducible apply stc hs.b0); exact rfl; exact rfl; exact rfl; exact rfl; exact rfl; kernel_rfl; exact rfl; clear hs; intro w hs) | ((with_reducible refine wrap hs ?_); clear hs; intro w hs) | ((with_reducible refine wrapn hs ?_); clear hs; intro w hs) | ((with_reducible refine wrapd hs ?_); clear hs; intro w hs)))
  refine end_ret rfl (results_tmp2 rfl _ _ _) ?_
  exact ⟨b, rfl, hs⟩

abbrev four3 : List C := [⟨97, [], 0, At.z⟩, bC At.z, ⟨120, [], 0, At.z⟩, ⟨98, [], 0, At.z⟩]
abbrev four4 : List C := [⟨97, [], 0, At.z⟩, bC At.z, bC At.z, bC At.z]
abbrev four5 : List C := [⟨19968, [], 1, At.z⟩, ⟨0, [], 2, At.z⟩, ⟨98, [], 0, At.z⟩, bC At.z]
abbrev four6 : List C := [bC At.z, bC At.z, bC At.z, ⟨98, [], 0, At.z⟩]
theorem runes32_lit {b : Nat} {l : List C} {s : ByteArray} (e : txtC l = s) (hn : l.length = 4) (h4 : ∀ c ∈ l, c.comb.length ≤ 4) (hs : sat W (rwP 55 b l :: H) w) : Calls Try.prog 32 #[.pointer (some ⟨b, 0, none⟩)] w fun e w' => e = .returned (.string s) ∧ sat W (rwP 55 b l :: H) w' := by
  have h := runes32 hn (by decide) (by decide) h4 hs
  rw [e] at h
  exact h
theorem insert13_lit {b : Nat} {l m : List C} {k q : Int} (e : insG l k q At.z = m) (hn : l.length = 4) (hs : sat W (rwP 55 b l :: H) w) : Calls Try.prog 13 #[.pointer (some ⟨b, 0, none⟩), .int .i64 k, .int .i64 q, aV At.z] w fun e w' => e = .returned (.int .i64 0) ∧ sat W (rwP 55 b m :: H) w' := by
  have h := insert13 (k := k) (m := q) (at_ := At.z) hn (by decide) (by decide) hs
  rw [e] at h
  exact h
theorem delete14_lit {b : Nat} {l m : List C} {k q : Int} (e : delG l k q At.z = m) (hn : l.length = 4) (hs : sat W (rwP 55 b l :: H) w) : Calls Try.prog 14 #[.pointer (some ⟨b, 0, none⟩), .int .i64 k, .int .i64 q, aV At.z] w fun e w' => e = .returned (.int .i64 0) ∧ sat W (rwP 55 b m :: H) w' := by
  have h := delete14 (k := k) (m := q) (at_ := At.z) hn (by decide) (by decide) hs
  rw [e] at h
  exact h
theorem erase21_lit {b : Nat} {l m : List C} {k q : Int} (e : eraseG l k q At.z = m) (hn : l.length = 4) (hs : sat W (rwP 55 b l :: H) w) : Calls Try.prog 21 #[.pointer (some ⟨b, 0, none⟩), .int .i64 k, .int .i64 q, aV At.z] w fun e w' => e = .returned (.int .i64 0) ∧ sat W (rwP 55 b m :: H) w' := by
  have h := erase21 (f := k) (t := q) (at_ := At.z) hn (by decide) (by decide) hs
  rw [e] at h
  exact h
theorem four_m {l : List C} (h : l.all (fun c => decide (c.comb.length ≤ 4)) = true) : ∀ c ∈ l, c.comb.length ≤ 4 := fun c hc => by simpa using List.all_eq_true.1 h c hc
theorem four_e0 : Hid (putG fourL 2 120 false At.z = (four3, 0)) := Lib.hid (by kernel_rfl)
theorem four_e1 : Hid (insG fourL 2 1 At.z = four4) := Lib.hid (by kernel_rfl)
theorem four_e2 : Hid (delG fourL 0 1 At.z = four5) := Lib.hid (by kernel_rfl)
theorem four_e3 : Hid (eraseG fourL 0 2 At.z = four6) := Lib.hid (by kernel_rfl)
theorem four_t0 : Hid (txtC four3 = ⟨#[97, 32, 120, 98]⟩) := Lib.hid (by kernel_rfl)
theorem four_t1 : Hid (txtC four4 = ⟨#[97, 32, 32, 32]⟩) := Lib.hid (by kernel_rfl)
theorem four_t2 : Hid (txtC four5 = ⟨#[228, 184, 128, 46, 98, 32]⟩) := Lib.hid (by kernel_rfl)
theorem four_t3 : Hid (txtC four6 = ⟨#[32, 32, 32, 98]⟩) := Lib.hid (by kernel_rfl)
theorem known8 (hs : sat W H w) : Calls Try.prog 8 #[] w fun e w' => e = .returned (.bool true) ∧ sat W H w' := by
  go_enter Try.func8, Try.ntmps8
  go_wp2_with fail
  go_loopw [6] (fun i wx => (i = .int .i64 0 ∨ i = .int .i64 1 ∨ i = .int .i64 2 ∨ i = .int .i64 3 ∨ i = .int .i64 4) ∧ sat W H wx) (fun i _ => ((4 : Int) - intOf i).toNat)
  case atStart => exact ⟨.inl rfl, hs⟩
  case round =>
    clear hs
    obtain ⟨hi, hs⟩ := hrel
    rcases hi with rfl | rfl | rfl | rfl | rfl
    · have hq : ((⟨#[97, 32, 120, 98]⟩ : ByteArray).toList == (⟨#[97, 32, 120, 98]⟩ : ByteArray).toList) = true := str_eq rfl
      go_wp2_with (first | (apply ix (k := 0) (v := .string ⟨#[97, 32, 120, 98]⟩); exact rfl; exact rfl; exact rfl; exact rfl; exact Try.underlying63; kernel_rfl; decide; exact rfl) | (go_at_call 31; refine (four31 hs).mono ?_; clear hs; rintro e w ⟨b, rfl, hs⟩) | (go_at_call 22; refine (put22_lit four_e0.out rfl hs).mono ?_; clear hs; rintro e w ⟨rfl, hs⟩) | (go_at_call 32; refine (runes32_lit four_t0.out rfl (four_m rfl) hs).mono ?_; clear hs; rintro e w ⟨rfl, hs⟩) | ((with_reducible refine isl ?_); first | ((with_reducible apply ld hs.b0); exact rfl; exact rfl; exact rfl; exact rfl; kernel_rfl) | ((with_reducible apply st hs.b0); exact rfl; exact rfl; exact rfl; exact rfl; exact rfl; exact rfl; kernel_rfl; exact rfl; clear hs; intro w hs) | ((with_reducible apply stc hs.b0); exact rfl; exact rfl; exact rfl; exact rfl; exact rfl; kernel_rfl; exact rfl; clear hs; intro w hs) | ((with_reducible refine wrap hs ?_); clear hs; intro w hs) | ((with_reducible refine wrapn hs ?_); clear hs; intro w hs) | ((with_reducible refine wrapd hs ?_); clear hs; intro w hs)))
      go_roundw
      case rel => exact ⟨.inr (.inl rfl), hs.drop⟩
      case measure => simp [intOf]
    · have hq : ((⟨#[97, 32, 32, 32]⟩ : ByteArray).toList == (⟨#[97, 32, 32, 32]⟩ : ByteArray).toList) = true := str_eq rfl
      go_wp2_with (first | (apply ix (k := 1) (v := .string ⟨#[97, 32, 32, 32]⟩); exact rfl; exact rfl; exact rfl; exact rfl; exact Try.underlying63; kernel_rfl; decide; exact rfl) | (go_at_call 31; refine (four31 hs).mono ?_; clear hs; rintro e w ⟨b, rfl, hs⟩) | (go_at_call 13; refine (insert13_lit four_e1.out rfl hs).mono ?_; clear hs; rintro e w ⟨rfl, hs⟩) | (go_at_call 32; refine (runes32_lit four_t1.out rfl (four_m rfl) hs).mono ?_; clear hs; rintro e w ⟨rfl, hs⟩) | ((with_reducible refine isl ?_); first | ((with_reducible apply ld hs.b0); exact rfl; exact rfl; exact rfl; exact rfl; kernel_rfl) | ((with_reducible apply st hs.b0); exact rfl; exact rfl; exact rfl; exact rfl; exact rfl; exact rfl; kernel_rfl; exact rfl; clear hs; intro w hs) | ((with_reducible apply stc hs.b0); exact rfl; exact rfl; exact rfl; exact rfl; exact rfl; kernel_rfl; exact rfl; clear hs; intro w hs) | ((with_reducible refine wrap hs ?_); clear hs; intro w hs) | ((with_reducible refine wrapn hs ?_); clear hs; intro w hs) | ((with_reducible refine wrapd hs ?_); clear hs; intro w hs)))
      go_roundw
      case rel => exact ⟨.inr (.inr (.inl rfl)), hs.drop⟩
      case measure => simp [intOf]
    · have hq : ((⟨#[228, 184, 128, 46, 98, 32]⟩ : ByteArray).toList == (⟨#[228, 184, 128, 46, 98, 32]⟩ : ByteArray).toList) = true := str_eq rfl
      go_wp2_with (first | (apply ix (k := 2) (v := .string ⟨#[228, 184, 128, 46, 98, 32]⟩); exact rfl; exact rfl; exact rfl; exact rfl; exact Try.underlying63; kernel_rfl; decide; exact rfl) | (go_at_call 31; refine (four31 hs).mono ?_; clear hs; rintro e w ⟨b, rfl, hs⟩) | (go_at_call 14; refine (delete14_lit four_e2.out rfl hs).mono ?_; clear hs; rintro e w ⟨rfl, hs⟩) | (go_at_call 32; refine (runes32_lit four_t2.out rfl (four_m rfl) hs).mono ?_; clear hs; rintro e w ⟨rfl, hs⟩) | ((with_reducible refine isl ?_); first | ((with_reducible apply ld hs.b0); exact rfl; exact rfl; exact rfl; exact rfl; kernel_rfl) | ((with_reducible apply st hs.b0); exact rfl; exact rfl; exact rfl; exact rfl; exact rfl; exact rfl; kernel_rfl; exact rfl; clear hs; intro w hs) | ((with_reducible apply stc hs.b0); exact rfl; exact rfl; exact rfl; exact rfl; exact rfl; kernel_rfl; exact rfl; clear hs; intro w hs) | ((with_reducible refine wrap hs ?_); clear hs; intro w hs) | ((with_reducible refine wrapn hs ?_); clear hs; intro w hs) | ((with_reducible refine wrapd hs ?_); clear hs; intro w hs)))
      go_roundw
      case rel => exact ⟨.inr (.inr (.inr (.inl rfl))), hs.drop⟩
      case measure => simp [intOf]
    · have hq : ((⟨#[32, 32, 32, 98]⟩ : ByteArray).toList == (⟨#[32, 32, 32, 98]⟩ : ByteArray).toList) = true := str_eq rfl
      go_wp2_with (first | (apply ix (k := 3) (v := .string ⟨#[32, 32, 32, 98]⟩); exact rfl; exact rfl; exact rfl; exact rfl; exact Try.underlying63; kernel_rfl; decide; exact rfl) | (go_at_call 31; refine (four31 hs).mono ?_; clear hs; rintro e w ⟨b, rfl, hs⟩) | (go_at_call 21; refine (erase21_lit four_e3.out rfl hs).mono ?_; clear hs; rintro e w ⟨rfl, hs⟩) | (go_at_call 32; refine (runes32_lit four_t3.out rfl (four_m rfl) hs).mono ?_; clear hs; rintro e w ⟨rfl, hs⟩) | ((with_reducible refine isl ?_); first | ((with_reducible apply ld hs.b0); exact rfl; exact rfl; exact rfl; exact rfl; kernel_rfl) | ((with_reducible apply st hs.b0); exact rfl; exact rfl; exact rfl; exact rfl; exact rfl; exact rfl; kernel_rfl; exact rfl; clear hs; intro w hs) | ((with_reducible apply stc hs.b0); exact rfl; exact rfl; exact rfl; exact rfl; exact rfl; kernel_rfl; exact rfl; clear hs; intro w hs) | ((with_reducible refine wrap hs ?_); clear hs; intro w hs) | ((with_reducible refine wrapn hs ?_); clear hs; intro w hs) | ((with_reducible refine wrapd hs ?_); clear hs; intro w hs)))
      go_roundw
      case rel => exact ⟨.inr (.inr (.inr (.inr rfl))), hs.drop⟩
      case measure => simp [intOf]
    · go_wp2_with fail
      go_ret
      exact ⟨rfl, hs⟩

end Go.Proofs.Yteoeeiinngpogaa
