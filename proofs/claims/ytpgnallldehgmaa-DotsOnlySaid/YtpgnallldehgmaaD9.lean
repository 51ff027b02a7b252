import Derived.Test.YtpgnallldehgmaaD7
import Derived.Test.YtpgnallldehgmaaD8
import Derived.Test.YtpgnallldehgmaaSv
namespace Go.Proofs.Ytpgnallldehgmaa
open Go.RowKit Go.Mem Go.Dots
variable {W w : World} {H : List HProp}
theorem RP.some {R : Option (List Nat)} {l : List Nat} {n : Nat} {e : Ending} {w' : World} (h : RP W H R e w') (hR : R = some l) (hn : l.length = n) : ∃ a c, e = .returned (.tuple #[.slice a n c, .int .i64 0]) ∧ sat W (own 5 1 (.slice a n c) n (nums .u8 l) :: H) w' := by
  subst hR; subst hn; exact h
theorem RP.none {R : Option (List Nat)} {e : Ending} {w' : World} (h : RP W H R e w') (hR : R = none) : ∃ a c, e = .returned (.tuple #[.slice a 0 c, .int .i64 5]) ∧ sat W (own 5 1 (.slice a 0 c) 0 (nums .u8 []) :: H) w' := by
  subst hR; exact h
theorem txt_byte (l : List Nat) (h : ∀ x ∈ l, x < 256) : ∀ b ∈ txt l, b < 256 := by
  intro b hb
  have hb' := List.mem_of_mem_tail hb
  obtain ⟨c, hc, hb'⟩ := List.mem_flatMap.1 hb'
  rcases List.mem_cons.1 hb' with rfl | hb'
  · omega
  · have := cellTxt_no c (h c hc) b hb'; omega
theorem txt_len : ∀ (l : List Nat), (∀ x ∈ l, x < 256) → (sepTxt l).length ≤ 10 * l.length
  | [], _ => Nat.le_refl _
  | c :: l, h => by
    have h1 := txt_len l (fun x hx => h x (List.mem_cons_of_mem _ hx))
    have h2 := cellTxt_len c (h c (List.mem_cons_self ..))
    show ((45 :: cellTxt c) ++ sepTxt l).length ≤ _
    rw [List.length_append, List.length_cons, List.length_cons]; omega
theorem show_byte (l : List Nat) (h : ∀ x ∈ l, x < 256) : ∀ b ∈ showB l, b < 256 := by
  intro b hb
  obtain ⟨c, hc, hb⟩ := List.mem_flatMap.1 hb
  have := h c hc
  simp only [show1, List.mem_cons, List.mem_nil_iff, or_false] at hb
  omega
theorem show_len (l : List Nat) : (showB l).length = 3 * l.length := by
  induction l with
  | nil => rfl
  | cons c l ih => rw [showB_cons]; simp only [List.length_cons, ih]; omega
theorem k1 : Dots.parse (by_ ⟨#[]⟩) = some [] := by decide +kernel
theorem k2 : Dots.parse (by_ ⟨#[50, 49]⟩) = none := by decide +kernel
theorem k3 : Dots.parse (by_ ⟨#[49, 45, 45, 50]⟩) = none := by decide +kernel
theorem k4 : bs (txt [1, 0, 255]) = ⟨#[49, 45, 48, 45, 49, 50, 51, 52, 53, 54, 55, 56]⟩ := by decide +kernel
theorem k5 : bs (showB [3]) = ⟨#[226, 160, 131]⟩ := by decide +kernel
attribute [local irreducible] World.setCell World.alloc World.drew World.drewN Calls sat cel own blk old wpQuiet bs by_ cellTxt txt showB si Dots.rparse Dots.parse Dots.read RP

theorem kp1 (hs : sat W H w) : Calls Try.prog 12 #[.string ⟨#[]⟩] w fun e w' => ∃ a c, e = .returned (.tuple #[.slice a 0 c, .int .i64 0]) ∧ sat W (own 5 1 (.slice a 0 c) 0 (nums .u8 []) :: H) w' := (parse12 _ (by decide) hs).mono fun _ _ h => h.some k1 rfl
theorem kp2 (hs : sat W H w) : Calls Try.prog 12 #[.string ⟨#[50, 49]⟩] w fun e w' => ∃ a c, e = .returned (.tuple #[.slice a 0 c, .int .i64 5]) ∧ sat W (own 5 1 (.slice a 0 c) 0 (nums .u8 []) :: H) w' := (parse12 _ (by decide) hs).mono fun _ _ h => h.none k2
theorem kp3 (hs : sat W H w) : Calls Try.prog 12 #[.string ⟨#[49, 45, 45, 50]⟩] w fun e w' => ∃ a c, e = .returned (.tuple #[.slice a 0 c, .int .i64 5]) ∧ sat W (own 5 1 (.slice a 0 c) 0 (nums .u8 []) :: H) w' := (parse12 _ (by decide) hs).mono fun _ _ h => h.none k3
theorem kp4 (g : Nat) (hs : sat W (cel g 5 [.int .u8 1, .int .u8 0, .int .u8 255] :: H) w) : Calls Try.prog 10 #[.slice (some ⟨g, 0, none⟩) 3 3] w fun e w' => e = .returned (.string ⟨#[49, 45, 48, 45, 49, 50, 51, 52, 53, 54, 55, 56]⟩) ∧ sat W H w' :=
  (text10 [1, 0, 255] (by decide) (by decide) _ (fun w' h => h.cel_reads (l := [.int .u8 1, .int .u8 0, .int .u8 255]) (by decide)) hs).mono fun _ _ h => ⟨k4 ▸ h.1, h.2.drop⟩
theorem kp5 (g : Nat) (hs : sat W (cel g 5 [.int .u8 3] :: H) w) : Calls Try.prog 11 #[.slice (some ⟨g, 0, none⟩) 1 1] w fun e w' => e = .returned (.string ⟨#[226, 160, 131]⟩) ∧ sat W H w' :=
  (show11 [3] (by decide) (by decide) _ (fun w' h => h.cel_reads (l := [.int .u8 3]) (by decide)) hs).mono fun _ _ h => ⟨k5 ▸ h.1, h.2.drop⟩

set_option maxHeartbeats 1000000 in
theorem known9 (hs : sat W H w) : Calls Try.prog 9 #[] w fun e w' => e = .returned (.bool true) ∧ sat W H w' := by
  go_enter Try.func9, Try.ntmps9
  go_wp2_with (first
    | (go_at_call 12; refine (kp1 hs).mono ?_; clear hs; rintro e w ⟨a1, c1, rfl, hs⟩) 
    | (go_at_call 12; refine (kp2 hs).mono ?_; clear hs; rintro e w ⟨a2, c2, rfl, hs⟩)
    | (go_at_call 12; refine (kp3 hs).mono ?_; clear hs; rintro e w ⟨a3, c3, rfl, hs⟩)
    | (go_at_call 10; refine (kp4 _ hs).mono ?_; clear hs; rintro e w ⟨rfl, hs⟩)
    | (go_at_call 11; refine (kp5 _ hs).mono ?_; clear hs; rintro e w ⟨rfl, hs⟩)
    | (go_at_call 8; refine (rune8 3 (by decide) _).mono ?_; rintro e w ⟨rfl, rfl⟩)
    | (refine wrap hs ?_; clear hs; intro w hs)
    | (refine wrapn hs ?_; clear hs; intro w hs)
    | (refine wrapd hs ?_; clear hs; intro w hs))
  go_ret
  exact ⟨rfl, hs.drop.drop.drop⟩

theorem same_yes (l : List Nat) (hl : ∀ x ∈ l, x < 256) (v1 v2 : Value) (hr1 : Reads w v1 (nums .u8 l)) (hr2 : Reads w v2 (nums .u8 l)) :
    Calls Try.prog 16 #[v1, v2] w fun e w' => e = .returned (.bool true) ∧ w' = w :=
  (same16 l l hl hl v1 v2 hr1 hr2).mono fun _ _ h => ⟨by rw [h.1]; simp, h.2⟩
theorem parse_s (s : ByteArray) (l : List Nat) (n : Nat) (h : s.size ≤ 10000) (hp : Dots.parse (by_ s) = .some l) (hn : l.length = n) (hs : sat W H w) :
    Calls Try.prog 12 #[.string s] w fun e w' => ∃ a c, e = .returned (.tuple #[.slice a n c, .int .i64 0]) ∧ sat W (own 5 1 (.slice a n c) n (nums .u8 l) :: H) w' := (parse12 s h hs).mono fun _ _ h => h.some hp hn
theorem read_s (s : ByteArray) (l : List Nat) (n : Nat) (h : s.size ≤ 10000) (hp : Dots.read (by_ s) = .some l) (hn : l.length = n) (hs : sat W H w) :
    Calls Try.prog 13 #[.string s] w fun e w' => ∃ a c, e = .returned (.tuple #[.slice a n c, .int .i64 0]) ∧ sat W (own 5 1 (.slice a n c) n (nums .u8 l) :: H) w' := (read13 s h hs).mono fun _ _ h => h.some hp hn
theorem txt_facts (l : List Nat) (hl : ∀ x ∈ l, x < 256) (h : l.length ≤ 1000) : (bs (txt l)).size ≤ 10000 ∧ Dots.parse (by_ (bs (txt l))) = .some l := by
  constructor
  · rw [bs_size]; unfold txt; rw [List.length_tail]; have := txt_len l hl; omega
  · rw [by_bs _ (txt_byte l hl), parse_txt l hl]
theorem show_facts (l : List Nat) (hl : ∀ x ∈ l, x < 256) (h : l.length ≤ 1000) : (bs (showB l)).size ≤ 10000 ∧ Dots.read (by_ (bs (showB l))) = .some l := by
  constructor
  · rw [bs_size, show_len]; omega
  · rw [by_bs _ (show_byte l hl), read_show l hl]

theorem tell_guard (a : Option Addr) (len cap : Nat) (h : 500 < len) (hl : len ≤ maxLen) (hs : sat W H w) : Calls Try.prog 4 #[.slice a len cap] w fun e w' => e = .returned (.bool true) ∧ sat W H w' := by
  unfold maxLen at hl
  have e1 : decide ((500 : Int) < (len : Int)) = true := by simp; omega
  go_enter Try.func4, Try.ntmps4
  go_wp2_with (first
    | (go_at_call 9; refine (known9 hs).mono ?_; clear hs; rintro e w ⟨rfl, hs⟩)
    | (refine wrap hs ?_; clear hs; intro w hs)
    | (refine wrapn hs ?_; clear hs; intro w hs)
    | (refine wrapd hs ?_; clear hs; intro w hs))
  go_ret
  exact ⟨rfl, hs⟩
set_option maxHeartbeats 2000000 in
theorem tell_walk (l : List Nat) (hl : ∀ x ∈ l, x < 256) (hlen : l.length ≤ 500) (ad : Option Addr) (cap : Nat) (w0 : World) (hr : Reads w0 (.slice ad l.length cap) (nums .u8 l)) (hs : sat W (old w0 :: H) w) :
    Calls Try.prog 4 #[.slice ad l.length cap] w fun e w' => e = .returned (.bool true) ∧ sat W (old w0 :: H) w' := by
  have HT := Lib.hid (txt_facts l hl (by omega))
  have HS := Lib.hid (show_facts l hl (by omega))
  have HR := Lib.hid hr
  have HL := Lib.hid hl
  clear hr hl
  generalize hn : l.length = n at *
  have HN := Lib.hid hn
  clear hn
  have e1 : decide ((500 : Int) < (n : Int)) = false := by simp; omega
  go_enter Try.func4, Try.ntmps4
  go_wp2_with (first
    | (apply appf hs; exact rfl; exact rfl; exact rfl; exact rfl; exact slty28; exact hs.drop.old_reads HR.out; exact nums_one; (rw [nums_length, HN.out]); omega; clear hs; intro a1 c1 w hs)
    | (go_at_call 10; refine (text10 l HL.out (by rw [HN.out]; omega) _ (fun w' h => h.own_reads.1) hs).mono ?_; clear hs; rintro e w ⟨rfl, hs⟩)
    | (go_at_call 11; refine (show11 l HL.out (by rw [HN.out]; omega) _ (fun w' h => h.own_reads.1) hs).mono ?_; clear hs; rintro e w ⟨rfl, hs⟩)
    | (go_at_call 12; refine (parse_s _ l n HT.out.1 HT.out.2 HN.out hs).mono ?_; clear hs; rintro e w ⟨a2, c2, rfl, hs⟩)
    | (go_at_call 13; refine (read_s _ l n HS.out.1 HS.out.2 HN.out hs).mono ?_; clear hs; rintro e w ⟨a3, c3, rfl, hs⟩)
    | (go_at_call 14; refine (rtext14 l HL.out (by rw [HN.out]; omega) _ (fun w' h => h.drop.drop.drop.old_reads HR.out) hs).mono ?_; clear hs; rintro e w ⟨rfl, hs⟩)
    | (go_at_call 15; refine (rshow15 l HL.out (by rw [HN.out]; omega) _ (fun w' h => h.drop.drop.drop.old_reads HR.out) hs).mono ?_; clear hs; rintro e w ⟨rfl, hs⟩)
    | (go_at_call 9; refine (known9 hs).mono ?_; clear hs; rintro e w ⟨rfl, hs⟩)
    | (go_at_call 16; refine (same_yes l HL.out _ _ hs.own_reads.1 (hs.drop.drop.drop.old_reads HR.out)).mono ?_; rintro e w' ⟨rfl, rfl⟩)
    | (go_at_call 16; refine (same_yes l HL.out _ _ hs.b1.own_reads.1 (hs.drop.drop.drop.old_reads HR.out)).mono ?_; rintro e w' ⟨rfl, rfl⟩)
    | (go_at_call 16; refine (same_yes l HL.out _ _ hs.b2.own_reads.1 (hs.drop.drop.drop.old_reads HR.out)).mono ?_; rintro e w' ⟨rfl, rfl⟩)
    | (refine wrap hs ?_; clear hs; intro w hs)
    | (refine wrapn hs ?_; clear hs; intro w hs)
    | (refine wrapd hs ?_; clear hs; intro w hs))
  go_ret
  exact ⟨rfl, hs.drop.drop.drop⟩
theorem tell_top (a : Option Addr) (len cap : Nat) (zs : List Int) (w : World) (ha : IsRow .u8 w a len cap zs) :
    Calls Try.prog 4 #[.slice a len cap] w fun e w' => e = .returned (.bool true) ∧ Below w.heap.size w w' := by
  obtain ⟨xs, rfl, hx⟩ := ha.args
  by_cases h : 500 < xs.length
  · exact (tell_guard a _ cap h hx.len (sat.start w)).mono fun e w' ⟨he, hs⟩ => ⟨he, hs.below⟩
  · obtain ⟨l, hl, hb, hr⟩ := hx.bytes cap
    rw [← hl] at h ⊢
    exact (tell_walk l hb (by omega) a cap w hr (sat.start w)).mono fun e w' ⟨he, hs⟩ => ⟨he, hs.below⟩

/-! ## DotsRunes -/
theorem eight (c : Nat) (hc : c < 256) (w : World) : Calls Try.prog 8 #[.int .u8 c] w fun e w' => e = .returned (.int .i32 (10240 + c : Nat)) ∧ w' = w := rune8 c hc w
set_option maxHeartbeats 1000000 in
theorem runes_walk (c : Nat) (hc : c < 256) (r : Int) (hs : sat W H w) : Calls Try.prog 3 #[.int .u8 c, .int .i32 r] w fun e w' => e = .returned (.bool true) ∧ sat W H w' := by
  by_cases h : 10240 ≤ r ∧ r ≤ 10495
  · obtain ⟨y, hy, rfl⟩ : ∃ y : Nat, y < 256 ∧ r = ((10240 + y : Nat) : Int) := ⟨(r - 10240).toNat, by omega, by omega⟩
    clear h
    go_enter Try.func3, Try.ntmps3
    go_wp2_with (first
    | (go_at_call 8; refine (eight c hc _).mono ?_; rintro e w ⟨rfl, rfl⟩)
    | (go_at_call 8; refine (eight y hy _).mono ?_; rintro e w ⟨rfl, rfl⟩)
    | (go_at_call 7; refine (cell7_c c hc _).mono ?_; rintro e w ⟨rfl, rfl⟩)
    | (go_at_call 7; refine (cell7_c y hy _).mono ?_; rintro e w ⟨rfl, rfl⟩)
    | (go_at_call 9; refine (known9 hs).mono ?_; clear hs; rintro e w ⟨rfl, hs⟩)
    | (refine wrap hs ?_; clear hs; intro w hs)
    | (refine wrapn hs ?_; clear hs; intro w hs)
    | (refine wrapd hs ?_; clear hs; intro w hs))
    go_ret
    exact ⟨rfl, hs⟩
  · have HN := Lib.hid h
    have hh : r < 10240 ∨ (10240 ≤ r ∧ 10495 < r) := by omega
    clear h
    rcases hh with h | ⟨h, h2⟩
    all_goals
      go_enter Try.func3, Try.ntmps3
      go_wp2_with (first
    | (go_at_call 8; refine (eight c hc _).mono ?_; rintro e w ⟨rfl, rfl⟩)
    | (go_at_call 7; refine (cell7_c c hc _).mono ?_; rintro e w ⟨rfl, rfl⟩)
    | (go_at_call 7; refine (cell7_no r HN.out _).mono ?_; rintro e w ⟨rfl, rfl⟩)
    | (go_at_call 9; refine (known9 hs).mono ?_; clear hs; rintro e w ⟨rfl, hs⟩)
    | (refine wrap hs ?_; clear hs; intro w hs)
    | (refine wrapn hs ?_; clear hs; intro w hs)
    | (refine wrapd hs ?_; clear hs; intro w hs))
      go_ret
      exact ⟨rfl, hs⟩
theorem runes_top (c r : Int) (w : World) (hc : (Lit.int .u8 c).wf = true) : Calls Try.prog 3 #[.int .u8 c, .int .i32 r] w fun e w' => e = .returned (.bool true) ∧ Below w.heap.size w w' := by
  have hw : 0 ≤ c ∧ c < 256 := by
    simp [Lit.wf, IntKind.min, IntKind.max, IntKind.signed, IntKind.bits] at hc
    omega
  obtain ⟨k, rfl⟩ : ∃ k : Nat, c = k := ⟨c.toNat, by omega⟩
  exact (runes_walk k (by omega) r (sat.start w)).mono fun e w' ⟨he, hs⟩ => ⟨he, hs.below⟩

/-! ## DotsRead -/
theorem parse_n (s : ByteArray) (h : s.size ≤ 10000) (hp : Dots.parse (by_ s) = .none) (hs : sat W H w) :
    Calls Try.prog 12 #[.string s] w fun e w' => ∃ a c, e = .returned (.tuple #[.slice a 0 c, .int .i64 5]) ∧ sat W (own 5 1 (.slice a 0 c) 0 (nums .u8 []) :: H) w' := (parse12 s h hs).mono fun _ _ h => h.none hp
theorem read_n (s : ByteArray) (h : s.size ≤ 10000) (hp : Dots.read (by_ s) = .none) (hs : sat W H w) :
    Calls Try.prog 13 #[.string s] w fun e w' => ∃ a c, e = .returned (.tuple #[.slice a 0 c, .int .i64 5]) ∧ sat W (own 5 1 (.slice a 0 c) 0 (nums .u8 []) :: H) w' := (read13 s h hs).mono fun _ _ h => h.none hp
theorem rparse_s (s : ByteArray) (l : List Nat) (n : Nat) (h : s.size ≤ 10000) (hp : Dots.parse (by_ s) = .some l) (hn : l.length = n) (hs : sat W H w) :
    Calls Try.prog 17 #[.string s] w fun e w' => ∃ a c, e = .returned (.tuple #[.slice a n c, .int .i64 0]) ∧ sat W (own 5 1 (.slice a n c) n (nums .u8 l) :: H) w' := (rparse17 s h hs).mono fun _ _ h => h.some (by rw [← parse_rparse]; exact hp) hn
theorem rparse_n (s : ByteArray) (h : s.size ≤ 10000) (hp : Dots.parse (by_ s) = .none) (hs : sat W H w) :
    Calls Try.prog 17 #[.string s] w fun e w' => ∃ a c, e = .returned (.tuple #[.slice a 0 c, .int .i64 5]) ∧ sat W (own 5 1 (.slice a 0 c) 0 (nums .u8 []) :: H) w' := (rparse17 s h hs).mono fun _ _ h => h.none (by rw [← parse_rparse]; exact hp)
theorem rread_s (s : ByteArray) (l : List Nat) (n : Nat) (h : s.size ≤ 10000) (hp : Dots.read (by_ s) = .some l) (hn : l.length = n) (hs : sat W H w) :
    Calls Try.prog 18 #[.string s] w fun e w' => ∃ a c, e = .returned (.tuple #[.slice a n c, .int .i64 0]) ∧ sat W (own 5 1 (.slice a n c) n (nums .u8 l) :: H) w' := (rread18 s h hs).mono fun _ _ h => h.some hp hn
theorem rread_n (s : ByteArray) (h : s.size ≤ 10000) (hp : Dots.read (by_ s) = .none) (hs : sat W H w) :
    Calls Try.prog 18 #[.string s] w fun e w' => ∃ a c, e = .returned (.tuple #[.slice a 0 c, .int .i64 5]) ∧ sat W (own 5 1 (.slice a 0 c) 0 (nums .u8 []) :: H) w' := (rread18 s h hs).mono fun _ _ h => h.none hp
theorem read_guard (s : ByteArray) (h : 1000 < s.size) (hs : sat W H w) : Calls Try.prog 5 #[.string s] w fun e w' => e = .returned (.bool true) ∧ sat W H w' := by
  go_enter Try.func5, Try.ntmps5
  go_wp2_with (first
    | (go_at_call 9; refine (known9 hs).mono ?_; clear hs; rintro e w ⟨rfl, hs⟩)
    | (refine wrap hs ?_; clear hs; intro w hs)
    | (refine wrapn hs ?_; clear hs; intro w hs)
    | (refine wrapd hs ?_; clear hs; intro w hs))
  go_ret
  exact ⟨rfl, hs⟩
theorem nil_lt : ∀ x ∈ ([] : List Nat), x < 256 := by simp
set_option maxHeartbeats 2000000 in
theorem read_walk (s : ByteArray) (h : s.size ≤ 1000) (hs : sat W H w) : Calls Try.prog 5 #[.string s] w fun e w' => e = .returned (.bool true) ∧ sat W H w' := by
  have h10 : s.size ≤ 10000 := by omega
  cases hp : Dots.parse (by_ s) with
  | none =>
    have HP := Lib.hid hp
    clear hp
    cases hr : Dots.read (by_ s) with
    | none =>
      have HR := Lib.hid hr
      clear hr
      go_enter Try.func5, Try.ntmps5
      go_wp2_with (first
    | (go_at_call 12; refine (parse_n s h10 HP.out hs).mono ?_; clear hs; rintro e w ⟨a1, c1, rfl, hs⟩)
    | (go_at_call 17; refine (rparse_n s h10 HP.out hs).mono ?_; clear hs; rintro e w ⟨a2, c2, rfl, hs⟩)
    | (go_at_call 13; refine (read_n s h10 HR.out hs).mono ?_; clear hs; rintro e w ⟨a3, c3, rfl, hs⟩)
    | (go_at_call 18; refine (rread_n s h10 HR.out hs).mono ?_; clear hs; rintro e w ⟨a4, c4, rfl, hs⟩)
    | (go_at_call 9; refine (known9 hs).mono ?_; clear hs; rintro e w ⟨rfl, hs⟩)
    | (go_at_call 16; refine (same_yes [] nil_lt _ _ hs.b3.own_reads.1 hs.b2.own_reads.1).mono ?_; rintro e w' ⟨rfl, rfl⟩)
    | (go_at_call 16; refine (same_yes [] nil_lt _ _ hs.b1.own_reads.1 hs.b0.own_reads.1).mono ?_; rintro e w' ⟨rfl, rfl⟩)
    | (refine wrap hs ?_; clear hs; intro w hs)
    | (refine wrapn hs ?_; clear hs; intro w hs)
    | (refine wrapd hs ?_; clear hs; intro w hs))
      go_ret
      exact ⟨rfl, hs.drop.drop.drop.drop⟩
    | some m =>
      have HR := Lib.hid hr
      have HM := Lib.hid (show ∀ x ∈ m, x < 256 from (show_read _ m hr).2)
      clear hr
      go_enter Try.func5, Try.ntmps5
      go_wp2_with (first
    | (go_at_call 12; refine (parse_n s h10 HP.out hs).mono ?_; clear hs; rintro e w ⟨a1, c1, rfl, hs⟩)
    | (go_at_call 17; refine (rparse_n s h10 HP.out hs).mono ?_; clear hs; rintro e w ⟨a2, c2, rfl, hs⟩)
    | (go_at_call 13; refine (read_s s m _ h10 HR.out rfl hs).mono ?_; clear hs; rintro e w ⟨a3, c3, rfl, hs⟩)
    | (go_at_call 18; refine (rread_s s m _ h10 HR.out rfl hs).mono ?_; clear hs; rintro e w ⟨a4, c4, rfl, hs⟩)
    | (go_at_call 9; refine (known9 hs).mono ?_; clear hs; rintro e w ⟨rfl, hs⟩)
    | (go_at_call 16; refine (same_yes [] nil_lt _ _ hs.b3.own_reads.1 hs.b2.own_reads.1).mono ?_; rintro e w' ⟨rfl, rfl⟩)
    | (go_at_call 16; refine (same_yes m HM.out _ _ hs.b1.own_reads.1 hs.b0.own_reads.1).mono ?_; rintro e w' ⟨rfl, rfl⟩)
    | (refine wrap hs ?_; clear hs; intro w hs)
    | (refine wrapn hs ?_; clear hs; intro w hs)
    | (refine wrapd hs ?_; clear hs; intro w hs))
      go_ret
      exact ⟨rfl, hs.drop.drop.drop.drop⟩
  | some l =>
    have HP := Lib.hid hp
    have HL := Lib.hid (show ∀ x ∈ l, x < 256 from parse_bound hp)
    clear hp
    cases hr : Dots.read (by_ s) with
    | none =>
      have HR := Lib.hid hr
      clear hr
      go_enter Try.func5, Try.ntmps5
      go_wp2_with (first
    | (go_at_call 12; refine (parse_s s l _ h10 HP.out rfl hs).mono ?_; clear hs; rintro e w ⟨a1, c1, rfl, hs⟩)
    | (go_at_call 17; refine (rparse_s s l _ h10 HP.out rfl hs).mono ?_; clear hs; rintro e w ⟨a2, c2, rfl, hs⟩)
    | (go_at_call 13; refine (read_n s h10 HR.out hs).mono ?_; clear hs; rintro e w ⟨a3, c3, rfl, hs⟩)
    | (go_at_call 18; refine (rread_n s h10 HR.out hs).mono ?_; clear hs; rintro e w ⟨a4, c4, rfl, hs⟩)
    | (go_at_call 9; refine (known9 hs).mono ?_; clear hs; rintro e w ⟨rfl, hs⟩)
    | (go_at_call 16; refine (same_yes l HL.out _ _ hs.b3.own_reads.1 hs.b2.own_reads.1).mono ?_; rintro e w' ⟨rfl, rfl⟩)
    | (go_at_call 16; refine (same_yes [] nil_lt _ _ hs.b1.own_reads.1 hs.b0.own_reads.1).mono ?_; rintro e w' ⟨rfl, rfl⟩)
    | (refine wrap hs ?_; clear hs; intro w hs)
    | (refine wrapn hs ?_; clear hs; intro w hs)
    | (refine wrapd hs ?_; clear hs; intro w hs))
      go_ret
      exact ⟨rfl, hs.drop.drop.drop.drop⟩
    | some m =>
      have HR := Lib.hid hr
      have HM := Lib.hid (show ∀ x ∈ m, x < 256 from (show_read _ m hr).2)
      clear hr
      go_enter Try.func5, Try.ntmps5
      go_wp2_with (first
    | (go_at_call 12; refine (parse_s s l _ h10 HP.out rfl hs).mono ?_; clear hs; rintro e w ⟨a1, c1, rfl, hs⟩)
    | (go_at_call 17; refine (rparse_s s l _ h10 HP.out rfl hs).mono ?_; clear hs; rintro e w ⟨a2, c2, rfl, hs⟩)
    | (go_at_call 13; refine (read_s s m _ h10 HR.out rfl hs).mono ?_; clear hs; rintro e w ⟨a3, c3, rfl, hs⟩)
    | (go_at_call 18; refine (rread_s s m _ h10 HR.out rfl hs).mono ?_; clear hs; rintro e w ⟨a4, c4, rfl, hs⟩)
    | (go_at_call 9; refine (known9 hs).mono ?_; clear hs; rintro e w ⟨rfl, hs⟩)
    | (go_at_call 16; refine (same_yes l HL.out _ _ hs.b3.own_reads.1 hs.b2.own_reads.1).mono ?_; rintro e w' ⟨rfl, rfl⟩)
    | (go_at_call 16; refine (same_yes m HM.out _ _ hs.b1.own_reads.1 hs.b0.own_reads.1).mono ?_; rintro e w' ⟨rfl, rfl⟩)
    | (refine wrap hs ?_; clear hs; intro w hs)
    | (refine wrapn hs ?_; clear hs; intro w hs)
    | (refine wrapd hs ?_; clear hs; intro w hs))
      go_ret
      exact ⟨rfl, hs.drop.drop.drop.drop⟩
theorem read_top (s : ByteArray) (w : World) : Calls Try.prog 5 #[.string s] w fun e w' => e = .returned (.bool true) ∧ Below w.heap.size w w' := by
  by_cases h : 1000 < s.size
  · exact (read_guard s h (sat.start w)).mono fun e w' ⟨he, hs⟩ => ⟨he, hs.below⟩
  · exact (read_walk s (by omega) (sat.start w)).mono fun e w' ⟨he, hs⟩ => ⟨he, hs.below⟩
end Go.Proofs.Ytpgnallldehgmaa
