/- Law 9: what a call does (plain). -/
import Derived.Test.YtdcagaaanbgcoaaS25
import Derived.Test.YtdcagaaanbgcoaaS12
import Derived.Test.YtdcagaaanbgcoaaSf
import Derived.Test.YtdcagaaanbgcoaaS23
namespace Go.Proofs.Ytdcagaaanbgcoaa
open Go.RowKit Go.Mem Go.Cells Go.Lines
/-- A call. -/
structure Op where
  kind : Int
  at2 : Int
  n : Int
  cols : Int
  r : Int
  wide : Bool
  a : At
abbrev opL (o : Op) : List Value := [.int .i64 o.kind, .int .i64 o.at2, .int .i64 o.n, .int .i64 o.cols, .int .i32 o.r, .bool o.wide, .int .u32 o.a.fg, .int .u32 o.a.bg, .int .u16 o.a.fl]
/-- What a call leaves: the screen, the next id, the scrollback, two answers. -/
structure Rs where
  x : Sc
  nx : Int
  sl : List LN
  r : Int
  e : Int
def kk (X : Sc) : Nat := (X.bot + 1 - X.top).toNat
def aUp (most : Nat) (X : Sc) (nx : Int) (SL : List LN) (q : Int) (a : At) : Rs :=
  ⟨{ X with L := upL X.L X.top.toNat (kk X) (hld q (kk X)) (frL (hld q (kk X)) nx (frC X.cols a)) }, nx + hld q (kk X), if X.keeps = true ∧ X.top = 0 then pushs most SL ((X.L.drop 0).take (hld q (kk X))) else SL, 0, 0⟩
def aDn (X : Sc) (nx : Int) (SL : List LN) (q : Int) (a : At) : Rs :=
  ⟨{ X with L := downL X.L X.top.toNat (kk X) (hld q (kk X)) (frL (hld q (kk X)) nx (frC X.cols a)) }, nx + hld q (kk X), SL, 0, 0⟩
def kt (X : Sc) (t : Int) : Nat := (X.bot + 1 - t).toNat
def aIns (X : Sc) (nx : Int) (SL : List LN) (t q : Int) (a : At) : Rs :=
  if t < X.top ∨ X.bot < t then ⟨X, nx, SL, 0, 2⟩
  else ⟨{ X with L := downL X.L t.toNat (kt X t) (hld q (kt X t)) (frL (hld q (kt X t)) nx (frC X.cols a)) }, nx + hld q (kt X t), SL, 0, 0⟩
def aDel (X : Sc) (nx : Int) (SL : List LN) (t q : Int) (a : At) : Rs :=
  if t < X.top ∨ X.bot < t then ⟨X, nx, SL, 0, 2⟩
  else ⟨{ X with L := upL X.L t.toNat (kt X t) (hld q (kt X t)) (frL (hld q (kt X t)) nx (frC X.cols a)) }, nx + hld q (kt X t), SL, 0, 0⟩
instance (n : Nat) (t b : Int) : Decidable (MOK n t b) := by unfold MOK; exact inferInstance
def aSet (X : Sc) (nx : Int) (SL : List LN) (t b : Int) : Rs :=
  if MOK X.L.length t b then ⟨{ X with top := t, bot := b }, nx, SL, 0, 0⟩ else ⟨X, nx, SL, 0, 2⟩
def rk (rows y : Int) : Nat := y.toNat + 1 - rows.toNat
def rn (N : Nat) (rows y : Int) : Nat := min rows.toNat (N - rk rows y)
def aRes (most : Nat) (X : Sc) (nx : Int) (SL : List LN) (rows cols y : Int) : Rs :=
  if (1 ≤ rows ∧ rows ≤ 512) ∧ (1 ≤ cols ∧ cols ≤ 512) ∧ 0 ≤ y ∧ y < (X.L.length : Int) then
    ⟨⟨X.keeps, cols.toNat, 0, (rows.toNat : Int) - 1, ((X.L.drop (rk rows y)).take (rn X.L.length rows y)).map (rszL cols.toNat) ++ frL (rows.toNat - rn X.L.length rows y) nx (frC cols.toNat At.z)⟩, nx + (rows.toNat - rn X.L.length rows y : Nat), if X.keeps = true then pushs most SL (X.L.take (rk rows y)) else SL, ((y.toNat - rk rows y : Nat) : Int), 0⟩
  else ⟨X, nx, SL, 0, 2⟩
def aPut (X : Sc) (nx : Int) (SL : List LN) (t c r : Int) (wide : Bool) (a : At) : Rs :=
  if t < 0 ∨ (X.L.length : Int) ≤ t then ⟨X, nx, SL, 0, 0⟩
  else match X.L[t.toNat]? with
    | some (id, l) => ⟨{ X with L := X.L.set t.toNat (id, (putG l c r wide a).1) }, nx, SL, 0, (putG l c r wide a).2⟩
    | none => ⟨X, nx, SL, 0, 0⟩
def act (most : Nat) (o : Op) (X : Sc) (nx : Int) (SL : List LN) : Rs :=
  if o.kind = 1 then aUp most X nx SL o.n o.a
  else if o.kind = 2 then aDn X nx SL o.n o.a
  else if o.kind = 3 then aIns X nx SL o.at2 o.n o.a
  else if o.kind = 4 then aDel X nx SL o.at2 o.n o.a
  else if o.kind = 5 then aSet X nx SL o.at2 o.n
  else if o.kind = 6 then aRes most X nx SL o.n o.cols o.at2
  else if o.kind = 7 then aPut X nx SL o.at2 o.cols o.r o.wide o.a
  else ⟨X, nx, SL, 0, 0⟩
/-- A screen that may be. -/
structure Inv (most : Nat) (X : Sc) (nx : Int) (SL : List LN) : Prop where
  n0 : 0 < X.L.length
  n5 : X.L.length ≤ 12
  c0 : 1 ≤ X.cols
  c5 : X.cols ≤ 20
  ok : ∀ x ∈ X.L, x.2.length = X.cols ∧ Ok x.2
  idk : IDK nx X.L
  ndk : NDK X.L
  t0 : 0 ≤ X.top
  tb : X.top ≤ X.bot
  b0 : X.bot < (X.L.length : Int)
  nx0 : 0 < nx
  sl : SL.length ≤ most
  slk : LOK SL
  sid : IDK nx SL
  dis : ∀ x ∈ X.L, ∀ y ∈ SL, x.1 ≠ y.1
theorem Inv.lok {most : Nat} {X : Sc} {nx : Int} {SL : List LN} (h : Inv most X nx SL) : LOK X.L := fun x hx => by
  obtain ⟨h1, h2⟩ := h.ok x hx
  have := h.c0
  have := h.c5
  exact ⟨by omega, by omega, h2⟩
/-- Lines keep their order. -/
def Ord (L L' : List LN) (nx : Int) : Prop := ((idv L').filter (fun i => decide (i < nx))).Sublist (idv L)
theorem idv_app (A B : List LN) : idv (A ++ B) = idv A ++ idv B := List.map_append
theorem idv_frL (m : Nat) (nx : Int) (fc : List C) : idv (frL m nx fc) = (List.range m).map (fun j : Nat => nx + (j : Int)) := by
  unfold idv frL
  rw [List.map_map]
  rfl
theorem frL_id {m : Nat} {nx i : Int} {fc : List C} (h : i ∈ idv (frL m nx fc)) : nx ≤ i ∧ i < nx + m := by
  rw [idv_frL] at h
  obtain ⟨j, hj, rfl⟩ := List.mem_map.1 h
  have := List.mem_range.1 hj
  omega
theorem frL_nd (m : Nat) (nx : Int) (fc : List C) : (idv (frL m nx fc)).Nodup := by
  rw [idv_frL, List.nodup_iff_pairwise_ne, List.pairwise_map]
  exact (List.nodup_iff_pairwise_ne.1 List.nodup_range).imp fun hne e => hne (by omega)
theorem mem_idv {L : List LN} {x : LN} (h : x ∈ L) : x.1 ∈ idv L := List.mem_map.2 ⟨x, h, rfl⟩
theorem of_idv {L : List LN} {i : Int} (h : i ∈ idv L) : ∃ x ∈ L, x.1 = i := List.mem_map.1 h
/-- Some lines stay (P, Q), others come between. -/
theorem mix_ids {L P Q : List LN} {m : Nat} {nx : Int} {fc : List C} (hs : (idv P ++ idv Q).Sublist (idv L)) (hi : IDK nx L) (hn : NDK L) (h0 : 0 < nx) :
    IDK (nx + m) (P ++ (frL m nx fc ++ Q)) ∧ NDK (P ++ (frL m nx fc ++ Q)) ∧ Ord L (P ++ (frL m nx fc ++ Q)) nx := by
  have hlt : ∀ i ∈ idv P ++ idv Q, 1 ≤ i ∧ i < nx := fun i h => by
    obtain ⟨x, hx, rfl⟩ := of_idv (hs.subset h)
    exact hi x hx
  have hnd : (idv P ++ idv Q).Nodup := List.Nodup.sublist hs hn
  refine ⟨fun x hx => ?_, ?_, ?_⟩
  · rcases List.mem_append.1 hx with h | h
    · have := hlt x.1 (List.mem_append_left _ (mem_idv h)); omega
    · rcases List.mem_append.1 h with h | h
      · have := frL_id (mem_idv h)
        omega
      · have := hlt x.1 (List.mem_append_right _ (mem_idv h)); omega
  · unfold NDK
    show (idv _).Nodup
    rw [idv_app, idv_app]
    obtain ⟨n1, n2, n3⟩ := List.nodup_append.1 hnd
    refine List.nodup_append.2 ⟨n1, List.nodup_append.2 ⟨frL_nd _ _ _, n2, ?_⟩, ?_⟩
    · intro a ha b hb e
      have h1 := frL_id ha
      have h2 := hlt b (List.mem_append_right _ hb)
      omega
    · intro a ha b hb
      rcases List.mem_append.1 hb with h | h
      · intro e
        have h1 := frL_id h
        have h2 := hlt a (List.mem_append_left _ ha)
        omega
      · exact n3 a ha b h
  · unfold Ord
    rw [idv_app, idv_app, List.filter_append, List.filter_append]
    have f1 : (idv P).filter (fun i => decide (i < nx)) = idv P := List.filter_eq_self.2 fun i h => decide_eq_true (hlt i (List.mem_append_left _ h)).2
    have f2 : (idv Q).filter (fun i => decide (i < nx)) = idv Q := List.filter_eq_self.2 fun i h => decide_eq_true (hlt i (List.mem_append_right _ h)).2
    have f3 : (idv (frL m nx fc)).filter (fun i => decide (i < nx)) = [] := List.filter_eq_nil_iff.2 fun i h => by
      have := frL_id h
      simp only [decide_eq_true_eq]
      omega
    rw [f1, f2, f3, List.nil_append]
    exact hs
theorem ord_same (L : List LN) (nx : Int) : Ord L L nx := List.filter_sublist
theorem pushs_mem {most : Nat} : ∀ (ls SL : List LN) (y : LN), y ∈ pushs most SL ls → y ∈ SL ∨ y ∈ ls
  | [], _, _, h => .inl h
  | x :: ls, SL, y, h => by
    rcases pushs_mem ls (push most SL x) y h with h1 | h1
    · have h2 : y ∈ SL ++ [x] := by
        unfold Go.Lines.push at h1
        split at h1
        · exact List.mem_of_mem_drop h1
        · exact h1
      rcases List.mem_append.1 h2 with h3 | h3
      · exact .inl h3
      · exact .inr (by rw [List.mem_singleton.1 h3]; exact List.mem_cons_self)
    · exact .inr (List.mem_cons_of_mem _ h1)
/-- Lines that stay, that come, that are pushed. -/
theorem Inv.mix {most m : Nat} {X : Sc} {nx : Int} {SL P Q G : List LN} {a : At} {keeps : Bool} {cols : Nat} {top bot : Int} (h : Inv most X nx SL) (hs : (idv P ++ idv Q).Sublist (idv X.L)) (hok : ∀ x ∈ P ++ Q, x.2.length = cols ∧ Ok x.2)
    (hG : ∀ y ∈ G, y ∈ X.L) (hd : ∀ x ∈ P ++ Q, ∀ y ∈ G, x.1 ≠ y.1) (c0 : 1 ≤ cols) (c5 : cols ≤ 20) (n0 : 0 < P.length + (m + Q.length)) (n5 : P.length + (m + Q.length) ≤ 12) (t0 : 0 ≤ top) (tb : top ≤ bot) (b0 : bot < ((P.length + (m + Q.length) : Nat) : Int)) :
    Inv most ⟨keeps, cols, top, bot, P ++ (frL m nx (frC cols a) ++ Q)⟩ (nx + m) (pushs most SL G) ∧ Ord X.L (P ++ (frL m nx (frC cols a) ++ Q)) nx := by
  obtain ⟨i1, i2, i3⟩ := mix_ids (m := m) (fc := frC cols a) hs h.idk h.ndk h.nx0
  have hl : (P ++ (frL m nx (frC cols a) ++ Q)).length = P.length + (m + Q.length) := by rw [List.length_append, List.length_append, frL_len]
  have hGi : ∀ y ∈ pushs most SL G, (0 < y.2.length ∧ y.2.length ≤ 512 ∧ Ok y.2) ∧ 1 ≤ y.1 ∧ y.1 < nx := fun y hy => by
    rcases pushs_mem _ _ _ hy with h1 | h1
    · exact ⟨h.slk y h1, h.sid y h1⟩
    · exact ⟨h.lok y (hG y h1), h.idk y (hG y h1)⟩
  refine ⟨⟨?_, ?_, c0, c5, ?_, i1, i2, t0, tb, ?_, ?_, pushs_le _ _ h.sl, fun y hy => (hGi y hy).1, fun y hy => ?_, ?_⟩, i3⟩
  · show 0 < (P ++ (frL m nx (frC cols a) ++ Q)).length
    rw [hl]; exact n0
  · show (P ++ (frL m nx (frC cols a) ++ Q)).length ≤ 12
    rw [hl]; exact n5
  · intro x hx
    rcases List.mem_append.1 hx with h1 | h1
    · exact hok x (List.mem_append_left _ h1)
    · rcases List.mem_append.1 h1 with h1 | h1
      · unfold frL at h1
        obtain ⟨j, _, rfl⟩ := List.mem_map.1 h1
        exact ⟨frC_len _ _, frC_ok _ _⟩
      · exact hok x (List.mem_append_right _ h1)
  · show bot < ((P ++ (frL m nx (frC cols a) ++ Q)).length : Int)
    rw [hl]; exact b0
  · have := h.nx0; omega
  · have := (hGi y hy).2; omega
  · intro x hx y hy
    have hold : ∀ x ∈ P ++ Q, x.1 ≠ y.1 := fun x hx => by
      rcases pushs_mem _ _ _ hy with h1 | h1
      · have h2 : x.1 ∈ idv P ++ idv Q := by rw [← idv_app]; exact mem_idv hx
        obtain ⟨z, hz, e⟩ := of_idv (hs.subset h2)
        rw [← e]
        exact h.dis z hz y h1
      · exact hd x hx y h1
    rcases List.mem_append.1 hx with h1 | h1
    · exact hold x (List.mem_append_left _ h1)
    · rcases List.mem_append.1 h1 with h1 | h1
      · have h2 := frL_id (mem_idv h1)
        have h3 := (hGi y hy).2
        intro e
        omega
      · exact hold x (List.mem_append_right _ h1)
theorem nodup_app {A B : List LN} (h : NDK (A ++ B)) : ∀ x ∈ A, ∀ y ∈ B, x.1 ≠ y.1 := fun x hx y hy => by
  have h1 : (idv (A ++ B)).Nodup := h
  rw [idv_app] at h1
  exact (List.nodup_append.1 h1).2.2 _ (mem_idv hx) _ (mem_idv hy)
theorem pushs_nil (most : Nat) (SL : List LN) : pushs most SL [] = SL := rfl
theorem Inv.up {most f k m : Nat} {X : Sc} {nx : Int} {SL : List LN} {a : At} (h : Inv most X nx SL) (hf : f + k ≤ X.L.length) (hm : m ≤ k) :
    Inv most { X with L := upL X.L f k m (frL m nx (frC X.cols a)) } (nx + m) SL ∧ Ord X.L (upL X.L f k m (frL m nx (frC X.cols a))) nx := by
  obtain ⟨A, B, C, D, h1, h2, h3, h4, h5⟩ := cut4' X.L hm hf
  have e : upL X.L f k m (frL m nx (frC X.cols a)) = (A ++ C) ++ (frL m nx (frC X.cols a) ++ D) := by
    unfold upL
    rw [h5, h1, tk1 h2, ← List.drop_drop, dp1 h2, dp1 h3, tk1 h4, List.append_assoc, List.append_assoc]
  have hl : X.L.length = A.length + (B.length + (C.length + D.length)) := by rw [h1]; simp only [List.length_append]
  rw [e]
  have hsub : (idv (A ++ C) ++ idv D).Sublist (idv X.L) := by
    rw [h1, idv_app, idv_app, idv_app, idv_app, List.append_assoc]
    exact (List.Sublist.refl _).append (List.sublist_append_right _ _)
  have h6 := h.mix (m := m) (P := A ++ C) (Q := D) (G := []) (a := a) (keeps := X.keeps) (cols := X.cols) (top := X.top) (bot := X.bot) hsub (fun x hx => h.ok x (by
    rw [h1]
    simp only [List.mem_append] at hx ⊢
    rcases hx with (hx | hx) | hx
    · exact .inl hx
    · exact .inr (.inr (.inl hx))
    · exact .inr (.inr (.inr hx)))) (fun y hy => by cases hy) (fun x _ y hy => by cases hy) h.c0 h.c5 (by have := h.n0; simp only [List.length_append]; omega) (by have := h.n5; simp only [List.length_append]; omega) h.t0 h.tb (by have := h.b0; simp only [List.length_append]; omega)
  rw [pushs_nil] at h6
  exact h6
theorem Inv.up0 {most k m : Nat} {X : Sc} {nx : Int} {SL : List LN} {a : At} (h : Inv most X nx SL) (hf : 0 + k ≤ X.L.length) (hm : m ≤ k) :
    Inv most { X with L := upL X.L 0 k m (frL m nx (frC X.cols a)) } (nx + m) (pushs most SL ((X.L.drop 0).take m)) ∧ Ord X.L (upL X.L 0 k m (frL m nx (frC X.cols a))) nx := by
  obtain ⟨A, B, C, D, h1, h2, h3, h4, h5⟩ := cut4' X.L hm hf
  obtain rfl := List.eq_nil_of_length_eq_zero h2
  have e : upL X.L 0 k m (frL m nx (frC X.cols a)) = C ++ (frL m nx (frC X.cols a) ++ D) := by
    unfold upL
    rw [h5, h1, tk1 h2, ← List.drop_drop, dp1 h2, dp1 h3, tk1 h4, List.append_assoc, List.append_assoc]
    rfl
  have hB : (X.L.drop 0).take m = B := by rw [h1, List.drop_zero, List.nil_append, tk1 h3]
  have hl : X.L.length = B.length + (C.length + D.length) := by rw [h1]; simp only [List.nil_append, List.length_append]
  rw [e, hB]
  have hsub : (idv C ++ idv D).Sublist (idv X.L) := by
    rw [h1, List.nil_append, idv_app, idv_app]
    exact List.sublist_append_right _ _
  refine h.mix (m := m) (P := C) (Q := D) (G := B) (a := a) (keeps := X.keeps) (cols := X.cols) (top := X.top) (bot := X.bot) hsub (fun x hx => h.ok x (by
    rw [h1, List.nil_append]
    exact List.mem_append_right _ hx)) (fun y hy => by rw [h1, List.nil_append]; exact List.mem_append_left _ hy) (fun x hx y hy e => ?_) h.c0 h.c5 (by have := h.n0; omega) (by have := h.n5; omega) h.t0 h.tb (by have := h.b0; omega)
  have hn := h.ndk
  rw [h1, List.nil_append] at hn
  exact nodup_app hn y hy x hx e.symm
theorem Inv.down {most f k m : Nat} {X : Sc} {nx : Int} {SL : List LN} {a : At} (h : Inv most X nx SL) (hf : f + k ≤ X.L.length) (hm : m ≤ k) :
    Inv most { X with L := downL X.L f k m (frL m nx (frC X.cols a)) } (nx + m) SL ∧ Ord X.L (downL X.L f k m (frL m nx (frC X.cols a))) nx := by
  obtain ⟨A, B, C, D, h1, h2, h3, h4, h5⟩ := cut4 X.L hm hf
  have e : downL X.L f k m (frL m nx (frC X.cols a)) = A ++ (frL m nx (frC X.cols a) ++ (B ++ D)) := by
    unfold downL
    rw [h5, h1, tk1 h2, dp1 h2, tk1 h3, List.append_assoc, List.append_assoc]
  have hl : X.L.length = A.length + (B.length + (C.length + D.length)) := by rw [h1]; simp only [List.length_append]
  rw [e]
  have hsub : (idv A ++ idv (B ++ D)).Sublist (idv X.L) := by
    rw [h1, idv_app, idv_app, idv_app, idv_app]
    exact (List.Sublist.refl _).append ((List.Sublist.refl _).append (List.sublist_append_right _ _))
  have h6 := h.mix (m := m) (P := A) (Q := B ++ D) (G := []) (a := a) (keeps := X.keeps) (cols := X.cols) (top := X.top) (bot := X.bot) hsub (fun x hx => h.ok x (by
    rw [h1]
    simp only [List.mem_append] at hx ⊢
    rcases hx with hx | hx | hx
    · exact .inl hx
    · exact .inr (.inl hx)
    · exact .inr (.inr (.inr hx)))) (fun y hy => by cases hy) (fun x _ y hy => by cases hy) h.c0 h.c5 (by have := h.n0; simp only [List.length_append]; omega) (by have := h.n5; simp only [List.length_append]; omega) h.t0 h.tb (by have := h.b0; simp only [List.length_append]; omega)
  rw [pushs_nil] at h6
  exact h6
theorem idv_rsz (m : Nat) (L : List LN) : idv (L.map (rszL m)) = idv L := by unfold idv; rw [List.map_map]; rfl
theorem Inv.res {most rows c2 y k n1 m : Nat} {X : Sc} {nx : Int} {SL : List LN} {keeps push : Bool} (h : Inv most X nx SL) (r0 : 1 ≤ rows) (r1 : rows ≤ 12) (c0 : 1 ≤ c2) (c1 : c2 ≤ 20) (hy : y < X.L.length) (hk : k = y + 1 - rows) (h1 : n1 = min rows (X.L.length - k)) (hm : m = rows - n1) :
    Inv most ⟨keeps, c2, 0, (rows : Int) - 1, ((X.L.drop k).take n1).map (rszL c2) ++ frL m nx (frC c2 At.z)⟩ (nx + m) (if push = true then pushs most SL (X.L.take k) else SL) ∧ Ord X.L (((X.L.drop k).take n1).map (rszL c2) ++ frL m nx (frC c2 At.z)) nx ∧ (((X.L.drop k).take n1).map (rszL c2) ++ frL m nx (frC c2 At.z)).length = rows := by
  have hP : (((X.L.drop k).take n1).map (rszL c2)).length = n1 := by rw [List.length_map, List.length_take, List.length_drop]; omega
  have hl : (((X.L.drop k).take n1).map (rszL c2) ++ frL m nx (frC c2 At.z)).length = rows := by rw [List.length_append, hP, frL_len]; omega
  have hsub : (idv (((X.L.drop k).take n1).map (rszL c2)) ++ idv []).Sublist (idv X.L) := by
    rw [idv_rsz]
    show (idv ((X.L.drop k).take n1) ++ []).Sublist (idv X.L)
    rw [List.append_nil]
    exact ((List.take_sublist _ _).trans (List.drop_sublist _ _)).map _
  have hok : ∀ x ∈ ((X.L.drop k).take n1).map (rszL c2) ++ [], x.2.length = c2 ∧ Ok x.2 := fun x hx => by
    rw [List.append_nil] at hx
    obtain ⟨z, hz, rfl⟩ := List.mem_map.1 hx
    have h2 := (h.ok z (List.mem_of_mem_drop (List.mem_of_mem_take hz))).2
    exact ⟨resR_len _ _ h2, (resize_eq h2 c2).2⟩
  have key : ∀ G : List LN, (∀ y ∈ G, y ∈ X.L) → (∀ x ∈ ((X.L.drop k).take n1).map (rszL c2) ++ [], ∀ y ∈ G, x.1 ≠ y.1) → Inv most ⟨keeps, c2, 0, (rows : Int) - 1, ((X.L.drop k).take n1).map (rszL c2) ++ frL m nx (frC c2 At.z)⟩ (nx + m) (pushs most SL G) ∧ Ord X.L (((X.L.drop k).take n1).map (rszL c2) ++ frL m nx (frC c2 At.z)) nx := fun G h2 h3 => by
    have h6 := h.mix (m := m) (P := ((X.L.drop k).take n1).map (rszL c2)) (Q := []) (G := G) (a := At.z) (keeps := keeps) (cols := c2) (top := 0) (bot := (rows : Int) - 1) hsub hok h2 h3 c0 c1 (by rw [hP, List.length_nil]; omega) (by rw [hP, List.length_nil]; omega) (Int.le_refl _) (by omega) (by rw [hP, List.length_nil]; omega)
    rw [List.append_nil] at h6
    exact h6
  cases push with
  | false =>
    obtain ⟨q1, q2⟩ := key [] (fun y hy => by cases hy) (fun x _ y hy => by cases hy)
    exact ⟨q1, q2, hl⟩
  | true =>
    have hn := h.ndk
    rw [← List.take_append_drop k X.L] at hn
    obtain ⟨q1, q2⟩ := key (X.L.take k) (fun y hy => List.mem_of_mem_take hy) (fun x hx y hy e => by
      rw [List.append_nil] at hx
      obtain ⟨z, hz, rfl⟩ := List.mem_map.1 hx
      exact nodup_app hn y hy z (List.mem_of_mem_take hz) e.symm)
    exact ⟨q1, q2, hl⟩
theorem Inv.put {most i : Nat} {X : Sc} {nx id : Int} {SL : List LN} {l l' : List C} (h : Inv most X nx SL) (hi : X.L[i]? = some (id, l)) (hl : l'.length = l.length) (hok : Ok l') :
    Inv most { X with L := X.L.set i (id, l') } nx SL ∧ idv (X.L.set i (id, l')) = idv X.L := by
  have e : idv (X.L.set i (id, l')) = idv X.L := by
    unfold idv
    rw [List.map_set]
    exact set_same (by rw [List.getElem?_map, hi]; rfl)
  have hm : ∀ x ∈ X.L.set i (id, l'), (∃ z ∈ X.L, z.1 = x.1) ∧ x.2.length = X.cols ∧ Ok x.2 := fun x hx => by
    have hmem := List.mem_of_getElem? hi
    rcases List.mem_or_eq_of_mem_set hx with h1 | h1
    · exact ⟨⟨x, h1, rfl⟩, h.ok x h1⟩
    · subst h1
      exact ⟨⟨_, hmem, rfl⟩, by have := (h.ok _ hmem).1; show l'.length = _; rw [hl]; exact this, hok⟩
  refine ⟨⟨by show 0 < (X.L.set _ _).length; rw [List.length_set]; exact h.n0, by show (X.L.set _ _).length ≤ 12; rw [List.length_set]; exact h.n5, h.c0, h.c5, fun x hx => (hm x hx).2, fun x hx => ?_, ?_, h.t0, h.tb, by show X.bot < ((X.L.set _ _).length : Int); rw [List.length_set]; exact h.b0, h.nx0, h.sl, h.slk, h.sid, fun x hx y hy => ?_⟩, e⟩
  · obtain ⟨z, hz, e1⟩ := (hm x hx).1
    rw [← e1]; exact h.idk z hz
  · show (idv _).Nodup
    rw [e]; exact h.ndk
  · obtain ⟨z, hz, e1⟩ := (hm x hx).1
    rw [← e1]; exact h.dis z hz y hy
/-- A call keeps what may be. -/
theorem Inv.nxt {most : Nat} {X : Sc} {nx : Int} {SL : List LN} {o : Op} (h : Inv most X nx SL) (ht : o.kind = 6 → o.n ≤ 12 ∧ o.cols ≤ 20) :
    Inv most (act most o X nx SL).x (act most o X nx SL).nx (act most o X nx SL).sl ∧ Ord X.L (act most o X nx SL).x.L nx ∧ nx ≤ (act most o X nx SL).nx ∧ (act most o X nx SL).nx ≤ nx + 12 := by
  have w0 := h.t0
  have w1 := h.tb
  have w2 := h.b0
  have w5 := h.n5
  have hkk : X.top.toNat + kk X ≤ X.L.length ∧ kk X ≤ 12 := by unfold kk; omega
  have hkt : ∀ t, X.top ≤ t → t ≤ X.bot → t.toNat + kt X t ≤ X.L.length ∧ kt X t ≤ 12 := fun t _ _ => by unfold kt; omega
  have h9 : ∀ q k, hld q k ≤ k := hld_le
  unfold act
  split
  · unfold aUp
    have := h9 o.n (kk X)
    split
    · rename_i hp
      have e : X.top.toNat = 0 := by omega
      rw [e] at hkk ⊢
      obtain ⟨q1, q2⟩ := h.up0 (a := o.a) hkk.1 (h9 o.n (kk X))
      exact ⟨q1, q2, by dsimp only; omega, by dsimp only; omega⟩
    · obtain ⟨q1, q2⟩ := h.up (a := o.a) hkk.1 (h9 o.n (kk X))
      exact ⟨q1, q2, by dsimp only; omega, by dsimp only; omega⟩
  split
  · unfold aDn
    have := h9 o.n (kk X)
    obtain ⟨q1, q2⟩ := h.down (a := o.a) hkk.1 (h9 o.n (kk X))
    exact ⟨q1, q2, by dsimp only; omega, by dsimp only; omega⟩
  split
  · unfold aIns
    split
    · exact ⟨h, ord_same _ _, by dsimp only; omega, by dsimp only; omega⟩
    · have hk := hkt o.at2 (by omega) (by omega)
      have := h9 o.n (kt X o.at2)
      obtain ⟨q1, q2⟩ := h.down (a := o.a) hk.1 (h9 o.n _)
      exact ⟨q1, q2, by dsimp only; omega, by dsimp only; omega⟩
  split
  · unfold aDel
    split
    · exact ⟨h, ord_same _ _, by dsimp only; omega, by dsimp only; omega⟩
    · have hk := hkt o.at2 (by omega) (by omega)
      have := h9 o.n (kt X o.at2)
      obtain ⟨q1, q2⟩ := h.up (a := o.a) hk.1 (h9 o.n _)
      exact ⟨q1, q2, by dsimp only; omega, by dsimp only; omega⟩
  split
  · unfold aSet
    split
    · rename_i hM
      have hn := h.n0
      unfold MOK at hM
      exact ⟨⟨h.n0, h.n5, h.c0, h.c5, h.ok, h.idk, h.ndk, by dsimp only; omega, by dsimp only; omega, by dsimp only; omega, h.nx0, h.sl, h.slk, h.sid, h.dis⟩, ord_same _ _, by dsimp only; omega, by dsimp only; omega⟩
    · exact ⟨h, ord_same _ _, by dsimp only; omega, by dsimp only; omega⟩
  split
  · rename_i h6
    obtain ⟨t1, t2⟩ := ht h6
    unfold aRes
    split
    · rename_i hv
      obtain ⟨q1, q2, q3⟩ := h.res (rows := o.n.toNat) (c2 := o.cols.toNat) (y := o.at2.toNat) (keeps := X.keeps) (push := X.keeps) (by omega) (by omega) (by omega) (by omega) (by omega) rfl rfl rfl
      have : rn X.L.length o.n o.at2 ≤ o.n.toNat := by unfold rn; omega
      exact ⟨q1, q2, by dsimp only; omega, by dsimp only; omega⟩
    · exact ⟨h, ord_same _ _, by dsimp only; omega, by dsimp only; omega⟩
  split
  · unfold aPut
    split
    · exact ⟨h, ord_same _ _, by dsimp only; omega, by dsimp only; omega⟩
    · split
      · rename_i id l hx
        have hok := (h.ok _ (List.mem_of_getElem? hx)).2
        obtain ⟨q1, q2⟩ := h.put hx (putG_len l o.cols o.r o.wide o.a) (put_eq hok o.cols o.r o.wide o.a).2
        refine ⟨q1, ?_, by dsimp only; omega, by dsimp only; omega⟩
        unfold Ord
        dsimp only
        rw [q2]
        exact List.filter_sublist
      · exact ⟨h, ord_same _ _, by dsimp only; omega, by dsimp only; omega⟩
  · exact ⟨h, ord_same _ _, by dsimp only; omega, by dsimp only; omega⟩
theorem act_size {most : Nat} {X : Sc} {nx : Int} {SL : List LN} {o : Op} (h : Inv most X nx SL) :
    (o.kind ≠ 6 → (act most o X nx SL).x.L.length = X.L.length ∧ (act most o X nx SL).x.cols = X.cols) ∧ (act most o X nx SL).x.keeps = X.keeps := by
  have w0 := h.t0
  have w1 := h.tb
  have w2 := h.b0
  have hkk : X.top.toNat + kk X ≤ X.L.length := by unfold kk; omega
  have hkt : ∀ t, X.top ≤ t → t ≤ X.bot → t.toNat + kt X t ≤ X.L.length := fun t _ _ => by unfold kt; omega
  unfold act
  split
  · exact ⟨fun _ => ⟨upL_len _ (hld_le _ _) hkk (frL_len _ _ _), rfl⟩, rfl⟩
  split
  · exact ⟨fun _ => ⟨downL_len _ (hld_le _ _) hkk (frL_len _ _ _), rfl⟩, rfl⟩
  split
  · unfold aIns
    split
    · exact ⟨fun _ => ⟨rfl, rfl⟩, rfl⟩
    · exact ⟨fun _ => ⟨downL_len _ (hld_le _ _) (hkt _ (by omega) (by omega)) (frL_len _ _ _), rfl⟩, rfl⟩
  split
  · unfold aDel
    split
    · exact ⟨fun _ => ⟨rfl, rfl⟩, rfl⟩
    · exact ⟨fun _ => ⟨upL_len _ (hld_le _ _) (hkt _ (by omega) (by omega)) (frL_len _ _ _), rfl⟩, rfl⟩
  split
  · unfold aSet
    split <;> exact ⟨fun _ => ⟨rfl, rfl⟩, rfl⟩
  split
  · unfold aRes
    split
    · exact ⟨fun hn => by contradiction, rfl⟩
    · exact ⟨fun _ => ⟨rfl, rfl⟩, rfl⟩
  split
  · unfold aPut
    split
    · exact ⟨fun _ => ⟨rfl, rfl⟩, rfl⟩
    · split
      · exact ⟨fun _ => ⟨List.length_set, rfl⟩, rfl⟩
      · exact ⟨fun _ => ⟨rfl, rfl⟩, rfl⟩
  · exact ⟨fun _ => ⟨rfl, rfl⟩, rfl⟩
end Go.Proofs.Ytdcagaaanbgcoaa
namespace Go.Proofs.Ytdcagaaanbgcoaa
open Go.RowKit Go.Mem Go.Cells Go.Lines
variable {W w : World} {H : List HProp}
attribute [local irreducible] rowTy oneTy World.setCell World.setCells World.alloc World.drew World.drewN Calls sat cel own blk old wpQuiet wpList cmb cmb1 rwP cls rws wi wh fst_ World.rangeAt lrw lnP stP lsP dsP lvs frL downL upL pushs dcP Rds
theorem may44b {x : Int} {b : Bool} (hb : Hid (decide (1 ≤ x ∧ x ≤ 512) = b)) (hs : sat W H w) : Calls Try.prog 44 #[.int .i64 x] w fun e w' => e = .returned (.bool b) ∧ sat W H w' := by
  rw [← hb.out]
  exact may44 hs
set_option maxRecDepth 20000 in
theorem sresize19_no {b s N cols : Nat} {keeps : Bool} {top bot rows c2 y : Int} {L : List LN} (hn : L.length = N) (h0 : 0 < N) (h : ¬ ((1 ≤ rows ∧ rows ≤ 512) ∧ (1 ≤ c2 ∧ c2 ≤ 512) ∧ 0 ≤ y ∧ y < (N : Int)))
    (hs : sat W (scP b s ⟨keeps, cols, top, bot, L⟩ :: H) w) :
    Calls Try.prog 19 #[.pointer (some ⟨b, 0, none⟩), .int .i64 rows, .int .i64 c2, .int .i64 y] w fun e w' => e = .returned (.tuple #[.int .i64 0, .int .i64 2]) ∧ sat W (scP b s ⟨keeps, cols, top, bot, L⟩ :: H) w' := by
  obtain ⟨ps, g, p, HO, hs⟩ := sc_open' hn h0 hs
  clear hn
  by_cases h1 : 1 ≤ rows ∧ rows ≤ 512
  · have H1 := Lib.hid (show decide (1 ≤ rows ∧ rows ≤ 512) = true from decide_eq_true h1)
    by_cases h2 : 1 ≤ c2 ∧ c2 ≤ 512
    · have H2 := Lib.hid (show decide (1 ≤ c2 ∧ c2 ≤ 512) = true from decide_eq_true h2)
      by_cases h3 : y < 0
      · have g1 : decide (y < 0) = true := decide_eq_true h3
        clear h h1 h2 h3
        go_enter Try.func19, Try.ntmps19
        go_wp2_with (first | (go_at_call 37; refine (sready37 h0 (by (apply sk_from (hs := hs); repeat constructor))).mono ?_; clear hs; rintro e w ⟨rfl, hs⟩) | (go_at_call 44; (first | refine (may44b (x := rows) H1 hs).mono ?_ | refine (may44b (x := c2) H2 hs).mono ?_); clear hs; rintro e w ⟨rfl, hs⟩))
        refine end_ret rfl (results_tmp2 rfl _ _ _) ⟨rfl, sc_close HO hs⟩
      · have g1 : decide (y < 0) = false := decide_eq_false h3
        have g2 : decide ((N : Int) ≤ y) = true := decide_eq_true (by omega)
        clear h h1 h2 h3
        go_enter Try.func19, Try.ntmps19
        go_wp2_with (first | (go_at_call 37; refine (sready37 h0 (by (apply sk_from (hs := hs); repeat constructor))).mono ?_; clear hs; rintro e w ⟨rfl, hs⟩) | (go_at_call 44; (first | refine (may44b (x := rows) H1 hs).mono ?_ | refine (may44b (x := c2) H2 hs).mono ?_); clear hs; rintro e w ⟨rfl, hs⟩) | ((with_reducible refine isl ?_); first | ((with_reducible apply ldx); exact rfl; exact rfl; exact rfl; (exact hs.b0); exact rfl; kernel_rfl)))
        refine end_ret rfl (results_tmp2 rfl _ _ _) ⟨rfl, sc_close HO hs⟩
    · have H2 := Lib.hid (show decide (1 ≤ c2 ∧ c2 ≤ 512) = false from decide_eq_false h2)
      clear h h1 h2
      go_enter Try.func19, Try.ntmps19
      go_wp2_with (first | (go_at_call 37; refine (sready37 h0 (by (apply sk_from (hs := hs); repeat constructor))).mono ?_; clear hs; rintro e w ⟨rfl, hs⟩) | (go_at_call 44; (first | refine (may44b (x := rows) H1 hs).mono ?_ | refine (may44b (x := c2) H2 hs).mono ?_); clear hs; rintro e w ⟨rfl, hs⟩))
      refine end_ret rfl (results_tmp2 rfl _ _ _) ⟨rfl, sc_close HO hs⟩
  · have H1 := Lib.hid (show decide (1 ≤ rows ∧ rows ≤ 512) = false from decide_eq_false h1)
    have H2 : Hid True := Lib.hid trivial
    clear h h1
    go_enter Try.func19, Try.ntmps19
    go_wp2_with (first | (go_at_call 37; refine (sready37 h0 (by (apply sk_from (hs := hs); repeat constructor))).mono ?_; clear hs; rintro e w ⟨rfl, hs⟩) | (go_at_call 44; (refine (may44b (x := rows) H1 hs).mono ?_); clear hs; rintro e w ⟨rfl, hs⟩))
    refine end_ret rfl (results_tmp2 rfl _ _ _) ⟨rfl, sc_close HO hs⟩
section
variable {most : Nat} {X : Sc} {nx : Int} {SL : List LN} {b s : Nat} {q t : Int} {a : At}
theorem pUp (h : Inv most X nx SL) (nb : nx + 512 ≤ 1000000) (hmo : most ≤ 10000) (hs : sat W (scP b s X :: stP s most nx SL :: H) w) :
    Calls Try.prog 12 #[.pointer (some ⟨b, 0, none⟩), .int .i64 q, aV a] w fun e w' => e = .returned (.int .i64 0) ∧ sat W (scP b s (aUp most X nx SL q a).x :: stP s most (aUp most X nx SL q a).nx (aUp most X nx SL q a).sl :: H) w' := by
  have lok := h.lok
  have n5 := h.n5
  have c5 := h.c5
  have t0 := h.t0
  have tb := h.tb
  have b0 := h.b0
  obtain ⟨keeps, cols, top, bot, L⟩ := X
  dsimp only at lok n5 c5 t0 tb b0
  obtain ⟨f, rfl⟩ : ∃ f : Nat, top = (f : Int) := ⟨top.toNat, by omega⟩
  obtain ⟨k, hk⟩ : ∃ k, kk ⟨keeps, cols, (f : Int), bot, L⟩ = k := ⟨_, rfl⟩
  have hk2 : bot = ((f + k : Nat) : Int) - 1 := by unfold kk at hk; dsimp only at hk; omega
  unfold aUp
  rw [hk]
  dsimp only
  rw [Int.toNat_natCast]
  cases keeps with
  | false =>
    rw [if_neg (by simp)]
    exact sup12_no rfl h.n0 (by omega) rfl hk2 (by omega) (by omega) h.c0 (by omega) h.nx0 nb hs
  | true =>
    by_cases hf : f = 0
    · subst hf
      rw [if_pos ⟨rfl, rfl⟩]
      exact sup12_push (f := 0) rfl h.n0 (by omega) rfl hk2 (by omega) (by omega) h.c0 (by omega) h.nx0 nb rfl lok h.idk hmo hs
    · rw [if_neg (by rintro ⟨_, e⟩; omega)]
      exact sup12_mid rfl h.n0 (by omega) rfl hk2 (by omega) (by omega) h.c0 (by omega) h.nx0 nb (by omega) hs
theorem pDn (h : Inv most X nx SL) (nb : nx + 512 ≤ 1000000) (hmo : most ≤ 10000) (hs : sat W (scP b s X :: stP s most nx SL :: H) w) :
    Calls Try.prog 13 #[.pointer (some ⟨b, 0, none⟩), .int .i64 q, aV a] w fun e w' => e = .returned (.int .i64 0) ∧ sat W (scP b s (aDn X nx SL q a).x :: stP s most (aDn X nx SL q a).nx (aDn X nx SL q a).sl :: H) w' := by
  have lok := h.lok
  have n5 := h.n5
  have c5 := h.c5
  have t0 := h.t0
  have tb := h.tb
  have b0 := h.b0
  obtain ⟨keeps, cols, top, bot, L⟩ := X
  dsimp only at lok n5 c5 t0 tb b0
  obtain ⟨f, rfl⟩ : ∃ f : Nat, top = (f : Int) := ⟨top.toNat, by omega⟩
  obtain ⟨k, hk⟩ : ∃ k, kk ⟨keeps, cols, (f : Int), bot, L⟩ = k := ⟨_, rfl⟩
  have hk2 : bot = ((f + k : Nat) : Int) - 1 := by unfold kk at hk; dsimp only at hk; omega
  unfold aDn
  rw [hk]
  dsimp only
  rw [Int.toNat_natCast]
  exact sdn13 rfl h.n0 (by omega) rfl hk2 (by omega) (by omega) h.c0 (by omega) h.nx0 nb hs
theorem pIns (h : Inv most X nx SL) (nb : nx + 512 ≤ 1000000) (hmo : most ≤ 10000) (hs : sat W (scP b s X :: stP s most nx SL :: H) w) :
    Calls Try.prog 16 #[.pointer (some ⟨b, 0, none⟩), .int .i64 t, .int .i64 q, aV a] w fun e w' => e = .returned (.int .i64 (aIns X nx SL t q a).e) ∧ sat W (scP b s (aIns X nx SL t q a).x :: stP s most (aIns X nx SL t q a).nx (aIns X nx SL t q a).sl :: H) w' := by
  have lok := h.lok
  have n5 := h.n5
  have c5 := h.c5
  have t0 := h.t0
  have tb := h.tb
  have b0 := h.b0
  obtain ⟨keeps, cols, top, bot, L⟩ := X
  dsimp only at lok n5 c5 t0 tb b0
  obtain ⟨f, rfl⟩ : ∃ f : Nat, top = (f : Int) := ⟨top.toNat, by omega⟩
  unfold aIns
  dsimp only
  by_cases hc : t < (f : Int) ∨ bot < t
  · rw [if_pos hc]
    exact sins16_no rfl h.n0 hc hs
  · rw [if_neg hc]
    obtain ⟨z, rfl⟩ : ∃ z : Nat, t = (z : Int) := ⟨t.toNat, by omega⟩
    obtain ⟨k, hk⟩ : ∃ k, kt ⟨keeps, cols, (f : Int), bot, L⟩ (z : Int) = k := ⟨_, rfl⟩
    have hk2 : bot = ((z + k : Nat) : Int) - 1 := by unfold kt at hk; dsimp only at hk; omega
    rw [hk]
    dsimp only
    rw [Int.toNat_natCast]
    exact sins16 rfl h.n0 (by omega) (by omega) hk2 (by omega) (by omega) h.c0 (by omega) h.nx0 nb hs
theorem pDel (h : Inv most X nx SL) (nb : nx + 512 ≤ 1000000) (hmo : most ≤ 10000) (hs : sat W (scP b s X :: stP s most nx SL :: H) w) :
    Calls Try.prog 17 #[.pointer (some ⟨b, 0, none⟩), .int .i64 t, .int .i64 q, aV a] w fun e w' => e = .returned (.int .i64 (aDel X nx SL t q a).e) ∧ sat W (scP b s (aDel X nx SL t q a).x :: stP s most (aDel X nx SL t q a).nx (aDel X nx SL t q a).sl :: H) w' := by
  have lok := h.lok
  have n5 := h.n5
  have c5 := h.c5
  have t0 := h.t0
  have tb := h.tb
  have b0 := h.b0
  obtain ⟨keeps, cols, top, bot, L⟩ := X
  dsimp only at lok n5 c5 t0 tb b0
  obtain ⟨f, rfl⟩ : ∃ f : Nat, top = (f : Int) := ⟨top.toNat, by omega⟩
  unfold aDel
  dsimp only
  by_cases hc : t < (f : Int) ∨ bot < t
  · rw [if_pos hc]
    exact sdel17_no rfl h.n0 hc hs
  · rw [if_neg hc]
    obtain ⟨z, rfl⟩ : ∃ z : Nat, t = (z : Int) := ⟨t.toNat, by omega⟩
    obtain ⟨k, hk⟩ : ∃ k, kt ⟨keeps, cols, (f : Int), bot, L⟩ (z : Int) = k := ⟨_, rfl⟩
    have hk2 : bot = ((z + k : Nat) : Int) - 1 := by unfold kt at hk; dsimp only at hk; omega
    rw [hk]
    dsimp only
    rw [Int.toNat_natCast]
    exact sdel17 rfl h.n0 (by omega) (by omega) hk2 (by omega) (by omega) h.c0 (by omega) h.nx0 nb hs
theorem pSet (h : Inv most X nx SL) (nb : nx + 512 ≤ 1000000) (hmo : most ≤ 10000) (hs : sat W (scP b s X :: stP s most nx SL :: H) w) :
    Calls Try.prog 9 #[.pointer (some ⟨b, 0, none⟩), .int .i64 t, .int .i64 q] w fun e w' => e = .returned (.int .i64 (aSet X nx SL t q).e) ∧ sat W (scP b s (aSet X nx SL t q).x :: stP s most (aSet X nx SL t q).nx (aSet X nx SL t q).sl :: H) w' := by
  have lok := h.lok
  have n5 := h.n5
  have c5 := h.c5
  have t0 := h.t0
  have tb := h.tb
  have b0 := h.b0
  obtain ⟨keeps, cols, top, bot, L⟩ := X
  dsimp only at lok n5 c5 t0 tb b0
  obtain ⟨f, rfl⟩ : ∃ f : Nat, top = (f : Int) := ⟨top.toNat, by omega⟩
  unfold aSet
  dsimp only
  by_cases hc : MOK L.length t q
  · rw [if_pos hc]
    obtain ⟨ps, a, p, HO, hs⟩ := sc_open rfl hs
    refine (sset9 h.n0 (show L.length ≤ 512 by omega) hc hs).mono ?_
    clear hs
    rintro e w ⟨rfl, hs⟩
    exact ⟨rfl, sc_close HO (by refine sb_from ?_ hs; repeat constructor)⟩
  · rw [if_neg hc]
    obtain ⟨ps, a, p, HO, hs⟩ := sc_open rfl hs
    refine (sset9_no h.n0 (show L.length ≤ 512 by omega) hc hs).mono ?_
    clear hs
    rintro e w ⟨rfl, hs⟩
    exact ⟨rfl, sc_close HO (by refine sb_from ?_ hs; repeat constructor)⟩
theorem pRes {rows cols2 y : Int} (h : Inv most X nx SL) (nb : nx + 512 ≤ 1000000) (hmo : most ≤ 10000) (hs : sat W (scP b s X :: stP s most nx SL :: H) w) :
    Calls Try.prog 19 #[.pointer (some ⟨b, 0, none⟩), .int .i64 rows, .int .i64 cols2, .int .i64 y] w fun e w' => e = .returned (.tuple #[.int .i64 (aRes most X nx SL rows cols2 y).r, .int .i64 (aRes most X nx SL rows cols2 y).e]) ∧ sat W (scP b s (aRes most X nx SL rows cols2 y).x :: stP s most (aRes most X nx SL rows cols2 y).nx (aRes most X nx SL rows cols2 y).sl :: H) w' := by
  have lok := h.lok
  have n5 := h.n5
  have c5 := h.c5
  have t0 := h.t0
  have tb := h.tb
  have b0 := h.b0
  obtain ⟨keeps, cols, top, bot, L⟩ := X
  dsimp only at lok n5 c5 t0 tb b0
  obtain ⟨f, rfl⟩ : ∃ f : Nat, top = (f : Int) := ⟨top.toNat, by omega⟩
  unfold aRes
  dsimp only
  by_cases hc : (1 ≤ rows ∧ rows ≤ 512) ∧ (1 ≤ cols2 ∧ cols2 ≤ 512) ∧ 0 ≤ y ∧ y < (L.length : Int)
  · rw [if_pos hc]
    obtain ⟨R, rfl⟩ : ∃ R : Nat, rows = (R : Int) := ⟨rows.toNat, by omega⟩
    obtain ⟨M, rfl⟩ : ∃ M : Nat, cols2 = (M : Int) := ⟨cols2.toNat, by omega⟩
    obtain ⟨Y, rfl⟩ : ∃ Y : Nat, y = (Y : Int) := ⟨y.toNat, by omega⟩
    simp only [Int.toNat_natCast]
    cases keeps with
    | false =>
      rw [if_neg (by simp)]
      exact sresize19_false (rows := R) (c2 := M) (y := Y) rfl (by omega) lok h.idk (by omega) (by omega) (by omega) (by omega) (by omega) rfl rfl rfl h.nx0 nb hmo hs
    | true =>
      rw [if_pos rfl]
      exact sresize19_true (rows := R) (c2 := M) (y := Y) rfl (by omega) lok h.idk (by omega) (by omega) (by omega) (by omega) (by omega) rfl rfl rfl h.nx0 nb hmo hs
  · rw [if_neg hc]
    exact sresize19_no rfl h.n0 hc hs
theorem dUp (h : Inv most X nx SL) (nb : nx + 512 ≤ 1000000) (hmo : most ≤ 10000) (hs : sat W (dcP b s X :: dsP s nx most SL :: H) w) :
    Calls Try.prog 50 #[.pointer (some ⟨b, 0, none⟩), .int .i64 q, aV a] w fun e w' => e = .returned (.tuple #[]) ∧ sat W (dcP b s (aUp most X nx SL q a).x :: dsP s (aUp most X nx SL q a).nx most (aUp most X nx SL q a).sl :: H) w' := by
  have lok := h.lok
  have n5 := h.n5
  have c5 := h.c5
  have t0 := h.t0
  have tb := h.tb
  have b0 := h.b0
  obtain ⟨keeps, cols, top, bot, L⟩ := X
  dsimp only at lok n5 c5 t0 tb b0
  obtain ⟨f, rfl⟩ : ∃ f : Nat, top = (f : Int) := ⟨top.toNat, by omega⟩
  obtain ⟨k, hk⟩ : ∃ k, kk ⟨keeps, cols, (f : Int), bot, L⟩ = k := ⟨_, rfl⟩
  have hk2 : bot = ((f + k : Nat) : Int) - 1 := by unfold kk at hk; dsimp only at hk; omega
  unfold aUp
  rw [hk]
  dsimp only
  rw [Int.toNat_natCast]
  cases keeps with
  | false =>
    rw [if_neg (by simp)]
    exact dup50_no rfl (by omega) rfl hk2 (by omega) (by omega) h.c0 (by omega) h.nx0 nb hs
  | true =>
    by_cases hf : f = 0
    · subst hf
      rw [if_pos ⟨rfl, rfl⟩]
      exact dup50_push (f := 0) rfl (by omega) rfl hk2 (by omega) (by omega) h.c0 (by omega) h.nx0 nb rfl lok h.idk h.sl hmo hs
    · rw [if_neg (by rintro ⟨_, e⟩; omega)]
      exact dup50_mid rfl (by omega) rfl hk2 (by omega) (by omega) h.c0 (by omega) h.nx0 nb (by omega) hs
theorem dDn (h : Inv most X nx SL) (nb : nx + 512 ≤ 1000000) (hmo : most ≤ 10000) (hs : sat W (dcP b s X :: dsP s nx most SL :: H) w) :
    Calls Try.prog 51 #[.pointer (some ⟨b, 0, none⟩), .int .i64 q, aV a] w fun e w' => e = .returned (.tuple #[]) ∧ sat W (dcP b s (aDn X nx SL q a).x :: dsP s (aDn X nx SL q a).nx most (aDn X nx SL q a).sl :: H) w' := by
  have lok := h.lok
  have n5 := h.n5
  have c5 := h.c5
  have t0 := h.t0
  have tb := h.tb
  have b0 := h.b0
  obtain ⟨keeps, cols, top, bot, L⟩ := X
  dsimp only at lok n5 c5 t0 tb b0
  obtain ⟨f, rfl⟩ : ∃ f : Nat, top = (f : Int) := ⟨top.toNat, by omega⟩
  obtain ⟨k, hk⟩ : ∃ k, kk ⟨keeps, cols, (f : Int), bot, L⟩ = k := ⟨_, rfl⟩
  have hk2 : bot = ((f + k : Nat) : Int) - 1 := by unfold kk at hk; dsimp only at hk; omega
  unfold aDn
  rw [hk]
  dsimp only
  rw [Int.toNat_natCast]
  exact ddn51 rfl (by omega) rfl hk2 (by omega) (by omega) h.c0 (by omega) h.nx0 nb hs
theorem dIns (h : Inv most X nx SL) (nb : nx + 512 ≤ 1000000) (hmo : most ≤ 10000) (hs : sat W (dcP b s X :: dsP s nx most SL :: H) w) :
    Calls Try.prog 52 #[.pointer (some ⟨b, 0, none⟩), .int .i64 t, .int .i64 q, aV a] w fun e w' => e = .returned (.int .i64 (aIns X nx SL t q a).e) ∧ sat W (dcP b s (aIns X nx SL t q a).x :: dsP s (aIns X nx SL t q a).nx most (aIns X nx SL t q a).sl :: H) w' := by
  have lok := h.lok
  have n5 := h.n5
  have c5 := h.c5
  have t0 := h.t0
  have tb := h.tb
  have b0 := h.b0
  obtain ⟨keeps, cols, top, bot, L⟩ := X
  dsimp only at lok n5 c5 t0 tb b0
  obtain ⟨f, rfl⟩ : ∃ f : Nat, top = (f : Int) := ⟨top.toNat, by omega⟩
  unfold aIns
  dsimp only
  by_cases hc : t < (f : Int) ∨ bot < t
  · rw [if_pos hc]
    exact dins52_no rfl hc hs
  · rw [if_neg hc]
    obtain ⟨z, rfl⟩ : ∃ z : Nat, t = (z : Int) := ⟨t.toNat, by omega⟩
    obtain ⟨k, hk⟩ : ∃ k, kt ⟨keeps, cols, (f : Int), bot, L⟩ (z : Int) = k := ⟨_, rfl⟩
    have hk2 : bot = ((z + k : Nat) : Int) - 1 := by unfold kt at hk; dsimp only at hk; omega
    rw [hk]
    dsimp only
    rw [Int.toNat_natCast]
    exact dins52 rfl (by omega) (by omega) hk2 (by omega) (by omega) h.c0 (by omega) h.nx0 nb hs
theorem dDel (h : Inv most X nx SL) (nb : nx + 512 ≤ 1000000) (hmo : most ≤ 10000) (hs : sat W (dcP b s X :: dsP s nx most SL :: H) w) :
    Calls Try.prog 53 #[.pointer (some ⟨b, 0, none⟩), .int .i64 t, .int .i64 q, aV a] w fun e w' => e = .returned (.int .i64 (aDel X nx SL t q a).e) ∧ sat W (dcP b s (aDel X nx SL t q a).x :: dsP s (aDel X nx SL t q a).nx most (aDel X nx SL t q a).sl :: H) w' := by
  have lok := h.lok
  have n5 := h.n5
  have c5 := h.c5
  have t0 := h.t0
  have tb := h.tb
  have b0 := h.b0
  obtain ⟨keeps, cols, top, bot, L⟩ := X
  dsimp only at lok n5 c5 t0 tb b0
  obtain ⟨f, rfl⟩ : ∃ f : Nat, top = (f : Int) := ⟨top.toNat, by omega⟩
  unfold aDel
  dsimp only
  by_cases hc : t < (f : Int) ∨ bot < t
  · rw [if_pos hc]
    exact ddel53_no rfl hc hs
  · rw [if_neg hc]
    obtain ⟨z, rfl⟩ : ∃ z : Nat, t = (z : Int) := ⟨t.toNat, by omega⟩
    obtain ⟨k, hk⟩ : ∃ k, kt ⟨keeps, cols, (f : Int), bot, L⟩ (z : Int) = k := ⟨_, rfl⟩
    have hk2 : bot = ((z + k : Nat) : Int) - 1 := by unfold kt at hk; dsimp only at hk; omega
    rw [hk]
    dsimp only
    rw [Int.toNat_natCast]
    exact ddel53 rfl (by omega) (by omega) hk2 (by omega) (by omega) h.c0 (by omega) h.nx0 nb hs
theorem dSet (h : Inv most X nx SL) (nb : nx + 512 ≤ 1000000) (hmo : most ≤ 10000) (hs : sat W (dcP b s X :: dsP s nx most SL :: H) w) :
    Calls Try.prog 54 #[.pointer (some ⟨b, 0, none⟩), .int .i64 t, .int .i64 q] w fun e w' => e = .returned (.int .i64 (aSet X nx SL t q).e) ∧ sat W (dcP b s (aSet X nx SL t q).x :: dsP s (aSet X nx SL t q).nx most (aSet X nx SL t q).sl :: H) w' := by
  have lok := h.lok
  have n5 := h.n5
  have c5 := h.c5
  have t0 := h.t0
  have tb := h.tb
  have b0 := h.b0
  obtain ⟨keeps, cols, top, bot, L⟩ := X
  dsimp only at lok n5 c5 t0 tb b0
  obtain ⟨f, rfl⟩ : ∃ f : Nat, top = (f : Int) := ⟨top.toNat, by omega⟩
  unfold aSet
  dsimp only
  by_cases hc : MOK L.length t q
  · rw [if_pos hc]
    exact dset54 rfl (by omega) hc hs
  · rw [if_neg hc]
    exact dset54_no rfl (by omega) hc hs
theorem dRes {rows cols2 y : Int} (h : Inv most X nx SL) (nb : nx + 512 ≤ 1000000) (hmo : most ≤ 10000) (hs : sat W (dcP b s X :: dsP s nx most SL :: H) w) :
    Calls Try.prog 55 #[.pointer (some ⟨b, 0, none⟩), .int .i64 rows, .int .i64 cols2, .int .i64 y] w fun e w' => e = .returned (.tuple #[.int .i64 (aRes most X nx SL rows cols2 y).r, .int .i64 (aRes most X nx SL rows cols2 y).e]) ∧ sat W (dcP b s (aRes most X nx SL rows cols2 y).x :: dsP s (aRes most X nx SL rows cols2 y).nx most (aRes most X nx SL rows cols2 y).sl :: H) w' := by
  have lok := h.lok
  have n5 := h.n5
  have c5 := h.c5
  have t0 := h.t0
  have tb := h.tb
  have b0 := h.b0
  obtain ⟨keeps, cols, top, bot, L⟩ := X
  dsimp only at lok n5 c5 t0 tb b0
  obtain ⟨f, rfl⟩ : ∃ f : Nat, top = (f : Int) := ⟨top.toNat, by omega⟩
  unfold aRes
  dsimp only
  by_cases hc : (1 ≤ rows ∧ rows ≤ 512) ∧ (1 ≤ cols2 ∧ cols2 ≤ 512) ∧ 0 ≤ y ∧ y < (L.length : Int)
  · rw [if_pos hc]
    obtain ⟨R, rfl⟩ : ∃ R : Nat, rows = (R : Int) := ⟨rows.toNat, by omega⟩
    obtain ⟨M, rfl⟩ : ∃ M : Nat, cols2 = (M : Int) := ⟨cols2.toNat, by omega⟩
    obtain ⟨Y, rfl⟩ : ∃ Y : Nat, y = (Y : Int) := ⟨y.toNat, by omega⟩
    simp only [Int.toNat_natCast]
    cases keeps with
    | false =>
      rw [if_neg (by simp)]
      exact dresize55_false (rows := R) (c2 := M) (y := Y) rfl (by omega) lok h.idk h.ndk (by omega) (by omega) (by omega) (by omega) (by omega) rfl rfl rfl h.nx0 nb h.sl hmo hs
    | true =>
      rw [if_pos rfl]
      exact dresize55_true (rows := R) (c2 := M) (y := Y) rfl (by omega) lok h.idk h.ndk (by omega) (by omega) (by omega) (by omega) (by omega) rfl rfl rfl h.nx0 nb h.sl hmo hs
  · rw [if_neg hc]
    exact dresize55_no rfl hc hs
end
end Go.Proofs.Ytdcagaaanbgcoaa
