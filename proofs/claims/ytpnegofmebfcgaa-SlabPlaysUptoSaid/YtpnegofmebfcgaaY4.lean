/- Slab: the law's Plays, walked. -/
import Derived.Test.YtpnegofmebfcgaaY3
import Derived.Deep.LoopGhost
import Derived.Deep.RegionHeld3
namespace Go.Proofs.Ytpnegofmebfcgaa
open Go.RowKit Go.Shelf
attribute [local go_sem] BW.cell BW.frozen Oper.semAt_some
set_option linter.unusedVariables false
set_option linter.unusedSimpArgs false

def NewR (one : Int) (S : Nat) (er : Int) : Prop := (1 ≤ one ∧ one ≤ 4096 ∧ one = S ∧ er = 0) ∨ (¬ (1 ≤ one ∧ one ≤ 4096) ∧ S = 0 ∧ er = 1)
/-- what New has made: a slab, or none -/
def NU (lo hi : Nat) (w : World) (S : Nat) (p : Option Addr) (er : Int) : Prop :=
  (S = 0 ∧ p = none ∧ er = 1) ∨ (0 < S ∧ S ≤ 4096 ∧ er = 0 ∧ ∃ g, p = some ⟨g + 1, 0, none⟩ ∧ lo ≤ g ∧ g + 1 < hi ∧ SlabAt 111 w (g + 1) g (List.replicate S ⟨0, 0, false, .string .empty⟩))
theorem NU.below {lo hi : Nat} {w w' : World} {S : Nat} {p : Option Addr} {er : Int} (h : NU lo hi w S p er) (hb : Below w.heap.size w w') : NU lo hi w' S p er :=
  h.imp id fun ⟨a, b, c, g, d, e, f, s⟩ => ⟨a, b, c, g, d, e, f, s.below hb⟩
theorem news_any (one : Int) : ∃ (S : Nat) (er : Int), NewR one S er ∧ ∀ w : World, Calls Try.prog 20 #[.int .i64 one] w fun e w' => ∃ p, e = .returned (.tuple #[.pointer p, .int .i64 er]) ∧ Below w.heap.size w w' ∧ NU w.heap.size w'.heap.size w' S p er := by
  by_cases h1 : 1 ≤ one ∧ one ≤ 4096
  · obtain ⟨n, rfl⟩ : ∃ n : Nat, one = n := ⟨one.toNat, by omega⟩
    refine ⟨n, 0, .inl ⟨h1.1, h1.2, rfl, rfl⟩, fun w => (news_ok n w (by omega) (by omega)).mono ?_⟩
    rintro e w' ⟨he, hb, hS⟩
    exact ⟨_, he, hb, .inr ⟨by omega, by omega, rfl, _, rfl, Nat.le_refl _, hS.pl, hS⟩⟩
  · refine ⟨0, 1, .inr ⟨h1, rfl, rfl⟩, fun w => ?_⟩
    have K : Calls Try.prog 20 #[.int .i64 one] w (Keeps (.tuple #[.pointer none, .int .i64 1]) w) := by
      by_cases h2 : one < 1
      · exact news_lo one w h2
      · exact news_hi one w h2 (by omega)
    refine K.mono ?_
    rintro e w' ⟨he, rfl⟩
    exact ⟨_, he, Below.refl _ _, .inl ⟨rfl, rfl, rfl⟩⟩
theorem rnew_any (one : Int) (S : Nat) (er : Int) (h : NewR one S er) (w : World) : Calls Try.prog 21 #[.int .i64 one] w (Gives (.tuple #[.agg #[.int .i64 (S : Int), .slice none 0 0], .int .i64 er]) w) := by
  rcases h with ⟨h1, h2, rfl, rfl⟩ | ⟨h1, rfl, rfl⟩
  · exact rnew_ok _ w h1 h2
  · exact rnew_bad one w (by omega)
def nil0 : Value := .slice none 0 0
/-- one of the two that New was asked for -/
theorem NU.unit {lo hi : Nat} {w : World} {S : Nat} {p : Option Addr} {er : Int} (bs : Nat) (h : NU lo hi w S p er) : ∃ u : Un, u.p = p ∧ u.S = S ∧ u.v = .slice none 0 0 ∧ u.all = [] ∧
    ((u.S = 0 ∧ u.l = [] ∧ u.p = none ∧ u.ps = bs ∧ u.g = bs) ∨ (0 < u.S ∧ u.S ≤ 4096 ∧ u.l.length = u.S ∧ RInv u.l [] ∧ u.p = some ⟨u.ps, 0, none⟩ ∧ u.ps = u.g + 1 ∧ lo ≤ u.g ∧ u.g + 1 < hi ∧ SlabAt 111 w u.ps u.g u.l)) := by
  rcases h with ⟨rfl, rfl, _⟩ | ⟨h1, h2, _, g, rfl, h3, h4, h5⟩
  · exact ⟨⟨none, bs, bs, .slice none 0 0, 0, [], []⟩, rfl, rfl, rfl, rfl, .inl ⟨rfl, rfl, rfl, rfl, rfl⟩⟩
  · exact ⟨⟨some ⟨g + 1, 0, none⟩, g + 1, g, .slice none 0 0, S, List.replicate S ⟨0, 0, false, .string .empty⟩, []⟩, rfl, rfl, rfl, rfl, .inr ⟨h1, h2, List.length_replicate, RInv.start S, rfl, rfl, h3, h4, h5⟩⟩
def X0 (W : World) (S1 S2 : Nat) (p1 p2 : Option Addr) : World :=
  ((W.alloc (.cells #[.slice none 0 0] 63)).alloc (.cells #[.pointer p1, .pointer p2, .pointer none, .pointer (some ⟨W.heap.size, 0, none⟩)] 53)).alloc (.cells #[.int .i64 (S1 : Int), .slice none 0 0, .int .i64 (S2 : Int), .slice none 0 0, .int .i64 0, .slice none 0 0, .int .i64 0, .slice none 0 0] 58)
set_option maxHeartbeats 4000000 in
theorem PM.start {n0 h1 h2 : Nat} {W : World} {S1 S2 : Nat} {p1 p2 : Option Addr} {er1 er2 : Int} (u1 : NU n0 h1 W S1 p1 er1) (u2 : NU h1 h2 W S2 p2 er2) (hh : n0 ≤ h1 ∧ h1 ≤ h2 ∧ h2 ≤ W.heap.size) :
    ∃ us, PM n0 (W.heap.size + 3) (W.heap.size + 1) (W.heap.size + 2) (X0 W S1 S2 p1 p2) us (.slice none 0 0) [] ∧ ∀ (k : Nat) (u : Un), us[k]? = some u → u.all = [] := by
  have hbX : Below W.heap.size W (X0 W S1 S2 p1 p2) := by
    unfold X0
    exact (((Below.refl _ W).alloc (Nat.le_refl _) _).alloc (by simp) _).alloc (by simp; omega) _
  obtain ⟨a, a1, a2, a3, a4, a5⟩ := u1.unit (W.heap.size + 1)
  obtain ⟨b, b1, b2, b3, b4, b5⟩ := u2.unit (W.heap.size + 1)
  have szX : (X0 W S1 S2 p1 p2).heap.size = W.heap.size + 3 := by unfold X0; simp
  have hbm : (X0 W S1 S2 p1 p2).heap[W.heap.size + 2]? = some (.cells #[.int .i64 (S1 : Int), .slice none 0 0, .int .i64 (S2 : Int), .slice none 0 0, .int .i64 0, .slice none 0 0, .int .i64 0, .slice none 0 0] 58 (0, 0)) := by
    have := heap_alloc_new ((W.alloc (.cells #[.slice none 0 0] 63)).alloc (.cells #[.pointer p1, .pointer p2, .pointer none, .pointer (some ⟨W.heap.size, 0, none⟩)] 53)) (.cells #[.int .i64 (S1 : Int), .slice none 0 0, .int .i64 (S2 : Int), .slice none 0 0, .int .i64 0, .slice none 0 0, .int .i64 0, .slice none 0 0] 58)
    simpa [X0] using this
  have hbs : (X0 W S1 S2 p1 p2).heap[W.heap.size + 1]? = some (.cells #[.pointer p1, .pointer p2, .pointer none, .pointer (some ⟨W.heap.size, 0, none⟩)] 53 (0, 0)) := by
    have := heap_alloc_new (W.alloc (.cells #[.slice none 0 0] 63)) (.cells #[.pointer p1, .pointer p2, .pointer none, .pointer (some ⟨W.heap.size, 0, none⟩)] 53)
    rw [World.size_alloc] at this
    exact (Below.heap_alloc _ _ _ (by simp)).trans this
  have hb3 : (X0 W S1 S2 p1 p2).heap[W.heap.size]? = some (.cells #[.slice none 0 0] 63 (0, 0)) := by
    have := heap_alloc_new W (.cells #[.slice none 0 0] 63)
    exact (Below.heap_alloc _ _ _ (by simp; omega)).trans ((Below.heap_alloc _ _ _ (by simp)).trans this)
  have rz : ∀ o (n : Int), (X0 W S1 S2 p1 p2).cell? ⟨W.heap.size + 2, o, none⟩ = some (.int .i64 n) → (X0 W S1 S2 p1 p2).cell? ⟨W.heap.size + 2, o + 1, none⟩ = some (.slice none 0 0) → RefAt (W.heap.size + 3) (X0 W S1 S2 p1 p2) (W.heap.size + 2) o (.slice none 0 0) n [] := fun o n h0 h1 =>
    ⟨h0, h1, by simp [World.frozen?, hbm], World.ownsRow_nil _ _ _ _, by omega, by omega⟩
  have r0 := rz 0 S1 (by simp [World.cell?, hbm]) (by simp [World.cell?, hbm])
  have r1 := rz 2 S2 (by simp [World.cell?, hbm]) (by simp [World.cell?, hbm])
  have r2 := rz 4 0 (by simp [World.cell?, hbm]) (by simp [World.cell?, hbm])
  have r3 := rz 6 0 (by simp [World.cell?, hbm]) (by simp [World.cell?, hbm])
  have s0 : (X0 W S1 S2 p1 p2).cell? ⟨W.heap.size + 1, 0, none⟩ = some (.pointer p1) := by simp [World.cell?, hbs]
  have s1 : (X0 W S1 S2 p1 p2).cell? ⟨W.heap.size + 1, 1, none⟩ = some (.pointer p2) := by simp [World.cell?, hbs]
  have s2 : (X0 W S1 S2 p1 p2).cell? ⟨W.heap.size + 1, 2, none⟩ = some (.pointer none) := by simp [World.cell?, hbs]
  have s3 : (X0 W S1 S2 p1 p2).cell? ⟨W.heap.size + 1, 3, none⟩ = some (.pointer (some ⟨W.heap.size, 0, none⟩)) := by simp [World.cell?, hbs]
  have c3 : (X0 W S1 S2 p1 p2).cell? ⟨W.heap.size, 0, none⟩ = some (.slice none 0 0) := by simp [World.cell?, hb3]
  generalize X0 W S1 S2 p1 p2 = X at *
  have ma : a.mem X (W.heap.size + 3) (W.heap.size + 1) (W.heap.size + 2) 0 := by
    refine ⟨by rw [a3, a4, a2]; exact r0, ?_, by rw [a1]; exact s0, ?_⟩
    · rcases a5 with ⟨_, _, _, h, _⟩ | ⟨_, _, _, _, _, h, h3, h4, _⟩ <;> omega
    · rcases a5 with ⟨h, h', h'', _⟩ | ⟨h, h', h'', h3, h4, h5, h6, h7, h8⟩
      · exact .inl ⟨h, a4, h', .inl h''⟩
      · exact .inr ⟨h, h', h'', by rw [a4]; exact h3, h4, h8.below hbX, by omega, by omega, by omega⟩
  have mb : b.mem X (W.heap.size + 3) (W.heap.size + 1) (W.heap.size + 2) 1 := by
    refine ⟨by rw [b3, b4, b2]; exact r1, ?_, by rw [b1]; exact s1, ?_⟩
    · rcases b5 with ⟨_, _, _, h, _⟩ | ⟨_, _, _, _, _, h, h3, h4, _⟩ <;> omega
    · rcases b5 with ⟨h, h', h'', _⟩ | ⟨h, h', h'', h3, h4, h5, h6, h7, h8⟩
      · exact .inl ⟨h, b4, h', .inl h''⟩
      · exact .inr ⟨h, h', h'', by rw [b4]; exact h3, h4, h8.below hbX, by omega, by omega, by omega⟩
  have pa : a.v.ownBlock = none := by rw [a3]; rfl
  have pb : b.v.ownBlock = none := by rw [b3]; rfl
  have ga : (a.S = 0 ∧ a.ps = W.heap.size + 1 ∧ a.g = W.heap.size + 1) ∨ (a.ps = a.g + 1 ∧ n0 ≤ a.g ∧ a.g + 1 < h1) := by
    rcases a5 with ⟨h, _, _, h2, h3⟩ | ⟨_, _, _, _, _, h, h3, h4, _⟩
    · exact .inl ⟨h, h2, h3⟩
    · exact .inr ⟨h, h3, h4⟩
  have gb : (b.S = 0 ∧ b.ps = W.heap.size + 1 ∧ b.g = W.heap.size + 1) ∨ (b.ps = b.g + 1 ∧ h1 ≤ b.g ∧ b.g + 1 < h2) := by
    rcases b5 with ⟨h, _, _, h2, h3⟩ | ⟨_, _, _, _, _, h, h3, h4, _⟩
    · exact .inl ⟨h, h2, h3⟩
    · exact .inr ⟨h, h3, h4⟩
  clear a5 b5
  refine ⟨[a, b, ⟨none, W.heap.size + 1, W.heap.size + 1, .slice none 0 0, 0, [], []⟩, ⟨some ⟨W.heap.size, 0, none⟩, W.heap.size, W.heap.size + 1, .slice none 0 0, 0, [], []⟩], ⟨rfl, fun k u hu => ?_, fun i j x y hij hx hy => ?_, World.ownsRow_nil _ _ _ _, fun _ _ _ => .inl rfl, ⟨by omega, by omega, by omega, by omega⟩, by omega, fun k u hu => ?_⟩, fun k u hu => ?_⟩
  · match k with
    | 0 => cases hu; exact ma
    | 1 => cases hu; exact mb
    | 2 => cases hu; exact ⟨r2, ⟨by show W.heap.size + 1 < _; omega, by show W.heap.size + 1 ≠ _; omega⟩, s2, .inl ⟨rfl, rfl, rfl, .inl rfl⟩⟩
    | 3 => cases hu; exact ⟨r3, ⟨by show W.heap.size < _; omega, by show W.heap.size ≠ _; omega⟩, s3, .inl ⟨rfl, rfl, rfl, .inr ⟨rfl, c3⟩⟩⟩
    | k + 4 => simp at hu
  · refine ⟨fun h => ?_, .inl ?_⟩
    · match i, j, hij with
      | 0, 1, _ => cases hx; cases hy; exact ⟨by omega, fun _ => by omega⟩
      | 1, 0, _ => cases hx; cases hy; exact ⟨by omega, fun _ => by omega⟩
      | 2, 0, _ => cases hx; cases hy; exact ⟨by show W.heap.size + 1 ≠ _; omega, fun h => by cases h⟩
      | 2, 1, _ => cases hx; cases hy; exact ⟨by show W.heap.size + 1 ≠ _; omega, fun h => by cases h⟩
      | 3, 0, _ => cases hx; cases hy; exact ⟨by show W.heap.size ≠ _; omega, fun h => by cases h⟩
      | 3, 1, _ => cases hx; cases hy; exact ⟨by show W.heap.size ≠ _; omega, fun h => by cases h⟩
      | _, 2, _ => cases hy; exact (Nat.lt_irrefl 0 h).elim
      | _, 3, _ => cases hy; exact (Nat.lt_irrefl 0 h).elim
      | _, j + 4, _ => simp at hy
      | i + 4, _, _ => simp at hx
      | 0, 0, h => exact (h rfl).elim
      | 1, 1, h => exact (h rfl).elim
    · match i with
      | 0 => cases hx; exact pa
      | 1 => cases hx; exact pb
      | 2 => cases hx; rfl
      | 3 => cases hx; rfl
      | i + 4 => simp at hx
  · match k with
    | 0 => cases hu; omega
    | 1 => cases hu; omega
    | 2 => cases hu; show n0 ≤ W.heap.size + 1; omega
    | 3 => cases hu; show n0 ≤ W.heap.size + 1; omega
    | k + 4 => simp at hu
  · match k with
    | 0 => cases hu; exact a4
    | 1 => cases hu; exact b4
    | 2 => cases hu; rfl
    | 3 => cases hu; rfl
    | k + 4 => simp at hu

set_option maxRecDepth 50000 in
set_option maxHeartbeats 32000000 in
theorem plays_core (one two : Int) (A : Option Addr) (n c : Nat) (ops : List OpV) (w : World) (h : Rd OpV.cells 6 w w.heap.size A n ops) (hn : n ≤ 1048576) :
    Calls Try.prog 5 #[.int .i64 one, .int .i64 two, .slice A n c] w (Gives (.bool true) w) := by
  obtain ⟨S1, er1, N1, K1⟩ := news_any one
  obtain ⟨S2, er2, N2, K2⟩ := news_any two
  have HH := Lib.hid h
  replace K1 := Lib.hid K1; replace K2 := Lib.hid K2; replace N1 := Lib.hid N1; replace N2 := Lib.hid N2
  have hrnd := Lib.hid rnd_in
  clear h
  go_enter Try.func5, Try.ntmps5
  go_wp2_with fail
  refine (K1.out _).mono ?_
  rintro e W0 ⟨p1, rfl, b0, D1⟩
  replace D1 := Lib.hid D1
  go_wp2_with fail
  refine (K2.out _).mono ?_
  rintro e W1 ⟨p2, rfl, b1, D2⟩
  have b1' := (b0.trans (b1.mono b0.size))
  replace D1 := Lib.hid (D1.out.below b1)
  replace D2 := Lib.hid D2
  have sz0 := b0.size; have sz1 := b1.size
  generalize W0.heap.size = h1 at *
  clear b0 b1 W0
  go_wp2_with fail
  refine (rnew_any _ _ _ N1.out _).mono ?_
  rintro e W ⟨rfl, z, rfl⟩
  have b2 := b1'.trans (z.h.mono b1'.size)
  replace D1 := Lib.hid (D1.out.below z.h); replace D2 := Lib.hid (D2.out.below z.h)
  have sz2 := z.h.size
  generalize z.i = W2 at *
  generalize W1.heap.size = h2 at *
  clear z b1' W1
  go_wp2_with fail
  have b3 := b2.alloc b2.size (.cells #[.int .i64 (S1 : Int), .slice none 0 0] 58)
  replace D1 := Lib.hid (D1.out.below ((Below.refl _ W2).alloc (Nat.le_refl _) (.cells #[.int .i64 (S1 : Int), .slice none 0 0] 58)))
  replace D2 := Lib.hid (D2.out.below ((Below.refl _ W2).alloc (Nat.le_refl _) (.cells #[.int .i64 (S1 : Int), .slice none 0 0] 58)))
  have x0 : (W2.alloc (.cells #[.int .i64 (S1 : Int), .slice none 0 0] 58)).cell? ⟨W2.heap.size, 0, none⟩ = some (.int .i64 (S1 : Int)) := by simp [go_sem]
  have x1 : (W2.alloc (.cells #[.int .i64 (S1 : Int), .slice none 0 0] 58)).cell? ⟨W2.heap.size, 1, none⟩ = some (.slice none 0 0) := by simp [go_sem]
  have lx : W2.heap.size < (W2.alloc (.cells #[.int .i64 (S1 : Int), .slice none 0 0] 58)).heap.size := by simp
  generalize W2.alloc (.cells #[.int .i64 (S1 : Int), .slice none 0 0] 58) = W3 at *
  generalize W2.heap.size = b12 at *
  clear b2 W2
  refine (rnew_any _ _ _ N2.out _).mono ?_
  rintro e W ⟨rfl, z, rfl⟩
  have b4 := b3.trans (z.h.mono b3.size)
  replace D1 := Lib.hid (D1.out.below z.h); replace D2 := Lib.hid (D2.out.below z.h)
  replace x0 := (z.h.cell (p := ⟨b12, 0, none⟩) lx).trans x0
  replace x1 := (z.h.cell (p := ⟨b12, 1, none⟩) lx).trans x1
  replace lx := Nat.lt_of_lt_of_le lx z.h.size
  generalize z.i = W4 at *
  clear z b3 W3
  go_upto_region 6 with fail
  have b5 := b4.alloc b4.size (.cells #[.int .i64 (S2 : Int), .slice none 0 0] 58)
  replace D1 := Lib.hid (D1.out.below ((Below.refl _ W4).alloc (Nat.le_refl _) (.cells #[.int .i64 (S2 : Int), .slice none 0 0] 58)))
  replace D2 := Lib.hid (D2.out.below ((Below.refl _ W4).alloc (Nat.le_refl _) (.cells #[.int .i64 (S2 : Int), .slice none 0 0] 58)))
  have y0 : (W4.alloc (.cells #[.int .i64 (S2 : Int), .slice none 0 0] 58)).cell? ⟨W4.heap.size, 0, none⟩ = some (.int .i64 (S2 : Int)) := by simp [go_sem]
  have y1 : (W4.alloc (.cells #[.int .i64 (S2 : Int), .slice none 0 0] 58)).cell? ⟨W4.heap.size, 1, none⟩ = some (.slice none 0 0) := by simp [go_sem]
  replace x0 : (W4.alloc (.cells #[.int .i64 (S2 : Int), .slice none 0 0] 58)).cell? ⟨b12, 0, none⟩ = some (.int .i64 (S1 : Int)) := by simp [go_sem, x0, lx]
  replace x1 : (W4.alloc (.cells #[.int .i64 (S2 : Int), .slice none 0 0] 58)).cell? ⟨b12, 1, none⟩ = some (.slice none 0 0) := by simp [go_sem, x1, lx]
  have ly : W4.heap.size < (W4.alloc (.cells #[.int .i64 (S2 : Int), .slice none 0 0] 58)).heap.size := by simp
  generalize W4.alloc (.cells #[.int .i64 (S2 : Int), .slice none 0 0] 58) = W5 at *
  generalize W4.heap.size = b14 at *
  replace lx : b12 < W5.heap.size := by omega
  have szh : h2 ≤ W5.heap.size := by omega
  clear b4 W4
  go_cut [68] from 47 to 68 (fun s68 wx => s68 = .bool false ∧ wx = W5)
  case first =>
    have E1 : (p1 = none ∧ er1 = 1) ∨ (∃ a, p1 = some a ∧ er1 = 0) := by
      rcases D1.out with ⟨_, h, h'⟩ | ⟨_, _, h', g, h, _⟩
      · exact .inl ⟨h, h'⟩
      · exact .inr ⟨_, h, h'⟩
    have E2 : (p2 = none ∧ er2 = 1) ∨ (∃ a, p2 = some a ∧ er2 = 0) := by
      rcases D2.out with ⟨_, h, h'⟩ | ⟨_, _, h', g, h, _⟩
      · exact .inl ⟨h, h'⟩
      · exact .inr ⟨_, h, h'⟩
    clear x0 x1 y0 y1
    rcases E1 with ⟨rfl, rfl⟩ | ⟨a1, rfl, rfl⟩ <;> rcases E2 with ⟨rfl, rfl⟩ | ⟨a2, rfl, rfl⟩
    all_goals go_wp2_with fail
    all_goals go_meet
    all_goals exact ⟨rfl, rfl⟩
  case rest =>
    obtain ⟨rfl, rfl⟩ := hcut
    obtain ⟨us0, M0, hall0⟩ := PM.start D1.out D2.out ⟨by omega, by omega, szh⟩
    go_wp2_with fail
    obtain ⟨X, hX⟩ : ∃ X, X = X0 wc S1 S2 p1 p2 := ⟨_, rfl⟩
    rw [← hX] at M0
    have bX : Below w.heap.size w X := by
      rw [hX]; unfold X0
      have := b5.size
      exact ((b5.alloc b5.size _).alloc (by simp; omega) _).alloc (by simp; omega) _
    unfold X0 at hX
    rw [← hX]
    clear hX x0 x1 y0 y1 lx ly D1 D2 N1 N2 K1 K2 b5 szh
    generalize wc.heap.size = b3 at *
    clear wc
    obtain ⟨i2, hi2, iz0, iz1, iz2⟩ := info_parts Try.info32
    go_loopg [18, 19] n (fun gk v18 v19 wr => ∃ (i : Nat) (us : List Un) (told : List (Int × Int)), i + gk = n ∧ v19 = .int .i64 i ∧ PM w.heap.size (b3 + 3) (b3 + 1) (b3 + 2) wr us v18 told ∧ (∀ (k : Nat) (u : Un), us[k]? = some u → u.all.length ≤ i) ∧ told.length ≤ i ∧ Below w.heap.size w wr)
    case atStart => exact ⟨0, us0, [], by omega, rfl, M0, fun k u hu => by rw [hall0 k u hu]; exact Nat.le_refl _, Nat.le_refl _, bX⟩
    case round =>
      clear M0 hall0 bX X us0
      obtain ⟨wo, rfl⟩ : ∃ wo : World, wo = wr := ⟨_, rfl⟩
      obtain ⟨i, us, told, hi, rfl, M, hal, htl, hb⟩ := hrel
      have hlen := M.len
      have HLEN := Lib.hid hlen
      have HAL := Lib.hid hal
      have ord := M.ord
      have lo := M.lo.1
      clear hlen hal
      by_cases hlt : i < n
      · obtain ⟨A7, c7, e7⟩ := M.told_
        obtain ⟨TT, hTT⟩ : ∃ TT, TT = told.length := ⟨_, rfl⟩
        rw [← hTT] at e7 htl
        have HTT := Lib.hid hTT
        clear hTT
        subst e7
        obtain ⟨b, off, rfl, hbl, hat⟩ := HH.out.at_ (by omega)
        obtain ⟨op, hop⟩ : ∃ op, ops[i]? = some op := ⟨_, List.getElem?_eq_getElem (by rw [HH.out.len]; exact hlt)⟩
        obtain ⟨owho, okind, on, ohs, ohg, ox⟩ := op
        have rd : ∀ (j : Nat) (v : Value), (OpV.cells ⟨owho, okind, on, ohs, ohg, ox⟩)[j]? = some v → wo.cell? ⟨b, off + i * 6 + j, none⟩ = some v := fun j v hv => (hb.cell (p := ⟨b, off + i * 6 + j, none⟩) hbl).trans (hat i _ hop j v hv)
        have d0 := rd 0 _ rfl; have d1 := rd 1 _ rfl; have d2 := rd 2 _ rfl; have d3 := rd 3 _ rfl; have d4 := rd 4 _ rfl; have d5 := rd 5 _ rfl
        rw [Nat.add_zero] at d0
        have lb : b < wo.heap.size := Nat.lt_of_lt_of_le hbl hb.size
        clear rd hat hop
        have hk4 := hrnd.out owho 4 (by decide)
        have K4 := round_ok owho 4
        obtain ⟨q, hq⟩ : ∃ q : Nat, rnd owho 4 = q := ⟨(rnd owho 4).toNat, by omega⟩
        rw [hq] at hk4 K4
        clear hq
        have K4 := Lib.hid K4
        have hq4 : q < 4 := by omega
        have K5 := round_ok okind 5
        generalize rnd okind 5 = R5 at K5
        have K5 := Lib.hid K5
        obtain ⟨u, hu⟩ : ∃ u, us[q]? = some u := ⟨_, List.getElem?_eq_getElem (by rw [HLEN.out]; exact hq4)⟩
        have hm : u.all.length ≤ 1048576 := by have := HAL.out q u hu; omega
        have HU := Lib.hid hu
        clear hu
        have M1 := M.alloc (.cells #[.int .i64 owho, .int .i64 okind, .int .i64 on, .int .i64 ohs, .int .i64 ohg, .string ox] 67)
        have b1 := hb.alloc hb.size (.cells #[.int .i64 owho, .int .i64 okind, .int .i64 on, .int .i64 ohs, .int .i64 ohg, .string ox] 67)
        have cm := (M1.un q u HU.out).ref.c0
        have cs := (M1.un q u HU.out).s_
        have b20o : some wo.heap.size ≠ u.v.ownBlock := (M.own (Nat.le_refl _)).1 q u HU.out
        have HM1 := Lib.hid M1
        have B1 := Lib.hid b1
        clear M1 b1 M
        go_wp2_with fail
        refine (K4.out _ (by decide) (by decide)).mono ?_
        rintro e W ⟨rfl, rfl⟩
        have o0 : (wo.alloc (.cells #[.int .i64 owho, .int .i64 okind, .int .i64 on, .int .i64 ohs, .int .i64 ohg, .string ox] 67)).cell? ⟨wo.heap.size, 0, none⟩ = some (.int .i64 owho) := by simp [go_sem]
        have o1 : (wo.alloc (.cells #[.int .i64 owho, .int .i64 okind, .int .i64 on, .int .i64 ohs, .int .i64 ohg, .string ox] 67)).cell? ⟨wo.heap.size, 1, none⟩ = some (.int .i64 okind) := by simp [go_sem]
        have o2 : (wo.alloc (.cells #[.int .i64 owho, .int .i64 okind, .int .i64 on, .int .i64 ohs, .int .i64 ohg, .string ox] 67)).cell? ⟨wo.heap.size, 2, none⟩ = some (.int .i64 on) := by simp [go_sem]
        have o3 : (wo.alloc (.cells #[.int .i64 owho, .int .i64 okind, .int .i64 on, .int .i64 ohs, .int .i64 ohg, .string ox] 67)).cell? ⟨wo.heap.size, 3, none⟩ = some (.int .i64 ohs) := by simp [go_sem]
        have o4 : (wo.alloc (.cells #[.int .i64 owho, .int .i64 okind, .int .i64 on, .int .i64 ohs, .int .i64 ohg, .string ox] 67)).cell? ⟨wo.heap.size, 4, none⟩ = some (.int .i64 ohg) := by simp [go_sem]
        have o5 : (wo.alloc (.cells #[.int .i64 owho, .int .i64 okind, .int .i64 on, .int .i64 ohs, .int .i64 ohg, .string ox] 67)).cell? ⟨wo.heap.size, 5, none⟩ = some (.string ox) := by simp [go_sem]
        have l20 : wo.heap.size < (wo.alloc (.cells #[.int .i64 owho, .int .i64 okind, .int .i64 on, .int .i64 ohs, .int .i64 ohg, .string ox] 67)).heap.size := by simp
        generalize wo.alloc (.cells #[.int .i64 owho, .int .i64 okind, .int .i64 on, .int .i64 ohs, .int .i64 ohg, .string ox] 67) = W1 at *
        have B20 : b3 + 3 ≤ wo.heap.size := ord.2.2.2
        generalize wo.heap.size = b20 at *
        clear d0 d1 d2 d3 d4 d5 lb hb ord
        clear wo
        have K22 := (fun (z : World) (hz : Below W1.heap.size W1 z) => HM1.out.stepc HU.out hm B1.out B1.out.size (by omega) ⟨owho, okind, on, ohs, ohg, ox⟩ rfl HTT.out.symm (by omega) z hz)
        dsimp only at K22
        replace K22 := Lib.hid K22
        go_upto_region 17 with fail
        go_cut [23, 24] from 98 to 111 (fun s23 s24 wx => ∃ (b23 : Nat) (hs hg : Int) (u' : Un), s23 = .pointer (some ⟨b23, 0, none⟩) ∧ s24 = .bool true ∧ PM w.heap.size (b3 + 3) (b3 + 1) (b3 + 2) wx (us.set q u') (.slice A7 TT c7) told ∧ u'.S = u.S ∧ u'.p = u.p ∧ u'.all.length ≤ u.all.length + 1 ∧ Below w.heap.size w wx ∧ wx.cell? ⟨b23, 0, none⟩ = some (.int .i64 hs) ∧ wx.cell? ⟨b23, 1, none⟩ = some (.int .i64 hg) ∧ b23 < wx.heap.size ∧ wx.cell? ⟨b20, 1, none⟩ = some (.int .i64 okind) ∧ b20 < wx.heap.size)
        case first =>
          have how := HM1.out.own (Nat.le_refl W1.heap.size)
          have HOW := Lib.hid how
          clear how
          have nb1 : b3 + 1 ≠ W1.heap.size := by omega
          have nb2 : b20 ≠ W1.heap.size := by omega
          have nb3 : W1.heap.size ≠ b3 + 1 := by omega
          have nb4 : W1.heap.size ≠ b20 := by omega
          have hku := Lib.hid (List.getElem?_eq_some_iff.1 HU.out).1
          have hu2 : ∀ x : Un, (us.set q x)[q]? = some x := fun x => by rw [List.getElem?_set, if_pos rfl, if_pos hku.out]
          have HU2 := Lib.hid hu2
          clear hu2
          go_region_held3 (fun w' => w'.cell? ⟨b3 + 1, q, none⟩ = some (.pointer u.p) ∧ w'.cell? ⟨b20, 0, none⟩ = some (.int .i64 owho) ∧ w'.cell? ⟨b20, 1, none⟩ = some (.int .i64 okind) ∧ w'.cell? ⟨b20, 2, none⟩ = some (.int .i64 on) ∧ w'.cell? ⟨b20, 3, none⟩ = some (.int .i64 ohs) ∧ w'.cell? ⟨b20, 4, none⟩ = some (.int .i64 ohg) ∧ w'.cell? ⟨b20, 5, none⟩ = some (.string ox)) (go_keep)
            (first | (go_at_call 22; refine Calls.mono (K22.out _ (by first | exact (Below.refl _ _).drew | exact ((Below.refl _ _).drew.alloc (Nat.le_refl _) _) | exact ((Below.refl _ _).alloc (Nat.le_refl _) _).drew)) ?_; rintro e z' ⟨hs', hg', u', rfl, E⟩; have F0 := (both_block 0 (by decide) (E.old _ E.net.2 (HOW.out.1 q u HU.out)) (by first | exact .inl rfl | exact .inr rfl)).1; have F1 := (both_block 1 (by decide) (E.old _ E.net.2 (HOW.out.1 q u HU.out)) (by first | exact .inl rfl | exact .inr rfl)).1; have G0 := (both_block 0 (by decide) (E.old _ E.net.2 (HOW.out.1 q u HU.out)) (by first | exact .inl rfl | exact .inr rfl)).2; have G1 := (both_block 1 (by decide) (E.old _ E.net.2 (HOW.out.1 q u HU.out)) (by first | exact .inl rfl | exact .inr rfl)).2; have NE := E.ne; simp [size_drew] at F0 F1 G0 G1 NE; have cs2 := (E.M.un q u' (HU2.out u')).s_; rw [E.pp] at cs2; have ob := E.old b20 (by omega) b20o (by first | exact l20 | exact Nat.lt_of_lt_of_le l20 (by simp [size_drew]) | (simp [size_drew]; omega)); have q0 := (World.cell?_of_block (a := ⟨b20, 0, none⟩) ob); have q1 := (World.cell?_of_block (a := ⟨b20, 1, none⟩) ob); have q2 := (World.cell?_of_block (a := ⟨b20, 2, none⟩) ob); have q3 := (World.cell?_of_block (a := ⟨b20, 3, none⟩) ob); have q4 := (World.cell?_of_block (a := ⟨b20, 4, none⟩) ob); have q5 := (World.cell?_of_block (a := ⟨b20, 5, none⟩) ob); clear ob; simp [o0, o1, o2, o3, o4, o5, l20, World.cell?_alloc_some] at q0 q1 q2 q3 q4 q5))
          all_goals (try dsimp only)
          all_goals (clear K22 K5 HH HAL)
          all_goals go_wp2_with fail
          all_goals go_meet
          all_goals (have szE := E.sz)
          all_goals first
            | exact ⟨z'.heap.size, hs', hg', u', rfl, rfl, E.M.alloc _, E.sS, E.pp, E.al, E.b.alloc E.b.size _, by simp [go_sem], by simp [go_sem], by simp, (Below.cell ((Below.refl _ z').alloc (Nat.le_refl _) _) (p := ⟨b20, 1, none⟩) (by show b20 < z'.heap.size; omega)).trans q1, by simp; omega⟩
            | exact ⟨W1.heap.size, hs', hg', u', rfl, rfl, (E.M.far2 E.net.2 NE E.net.1 0 (.int .i64 hs')).far2 E.net.2 NE E.net.1 1 (.int .i64 hg'), E.sS, E.pp, E.al, (E.b.setCell (p := ⟨W1.heap.size, 0, none⟩) B1.out.size _).setCell (p := ⟨W1.heap.size, 1, none⟩) B1.out.size _, (set_two F0 F1 _ _).1, (set_two F0 F1 _ _).2, by simp; exact World.block_lt_of_cell? _ _ F0, ((World.cell?_setCell_other _ _ _ _ (by simp <;> omega)).trans (World.cell?_setCell_other _ _ _ _ (by simp <;> omega))).trans q1, by simp; omega⟩
        case rest =>
          obtain ⟨b23, hs, hg, u', rfl, rfl, M2, hS, hp, hall, hb2, p0, p1, l23, ok1, l20'⟩ := hcut
          clear HM1 B1 K22 cm cs o0 o1 o2 o3 o4 o5 l20 b20o
          obtain ⟨W2, rfl⟩ : ∃ W2 : World, W2 = wc := ⟨_, rfl⟩
          have hku := (List.getElem?_eq_some_iff.1 HU.out).1
          have hu2 : (us.set q u')[q]? = some u' := by rw [List.getElem?_set, if_pos rfl, if_pos hku]
          have HU2 := Lib.hid hu2
          have HM2 := Lib.hid M2
          have hm2 : u'.all.length ≤ 1048577 := by omega
          clear hu2 hku M2
          have hm3 : u'.all.length ≤ 1048576 := by have := HAL.out q u HU.out; omega
          clear hm2
          go_wp2_with fail
          refine (HM2.out.listc HU2.out hm3 W2 (Below.refl _ _)).mono ?_
          rintro e W3 ⟨vv, rfl, b3', own3⟩
          obtain ⟨AL, cL, eL, hrd⟩ := own_rd own3
          clear hrd
          subst eL
          have inv := (HM2.out.un q u' HU2.out).inv
          have hlk := (held_likes u'.l inv.1.strs).2
          have hfl := List.length_filter_le (fun s : SL => s.full) u'.l
          have hfl2 : (u'.l.filter (·.full)).length ≤ u'.S := by rw [inv.2.1] at hfl; exact hfl
          have hS4 := inv.2.2
          have M3 := HM2.out.below b3'
          have KL := M3.lenc HU2.out
          have KR := M3.roomc HU2.out
          obtain ⟨fl, hflq⟩ : ∃ fl, fl = (u'.l.filter (·.full)).length := ⟨_, rfl⟩
          rw [← hflq] at hlk hfl2 KL KR
          rw [hlk]
          clear own3 hfl inv hlk hflq
          have cs := (M3.un q u' HU2.out).s_
          have cm := (M3.un q u' HU2.out).ref.c0
          rw [hp] at cs KL KR
          rw [hS] at cm hfl2 hS4 KR
          replace KL := Lib.hid KL; replace KR := Lib.hid KR
          replace p0 := (b3'.cell (p := ⟨b23, 0, none⟩) l23).trans p0
          replace p1 := (b3'.cell (p := ⟨b23, 1, none⟩) l23).trans p1
          replace ok1 := (b3'.cell (p := ⟨b20, 1, none⟩) l20').trans ok1
          replace l23 := Nat.lt_of_lt_of_le l23 b3'.size
          replace l20' := Nat.lt_of_lt_of_le l20' b3'.size
          have hb3 := hb2.trans (b3'.mono hb2.size)
          have HM3 := Lib.hid M3
          have B3 := Lib.hid hb3
          clear M3 hb3 hb2 b3' HM2 W2
          have lbs : b3 + 1 < W3.heap.size := by have := HM3.out.ord; omega
          have lbm : b3 + 2 < W3.heap.size := by have := HM3.out.ord; omega
          go_wp2_with fail
          refine wp_region_bw W3.heap.size W3 (Below.refl _ _) (by kernel_rfl) (by kernel_rfl) ?_
          repeat (go_big_quiet_step ((first | (go_at_call 24; exact Calls.bw_of (Nat.le_refl _) (KL.out _ (BW.h _))) | (go_at_call 25; exact Calls.bw_of (Nat.le_refl _) (KR.out _ (BW.h _))))))
          refine wpQuiet_nil ?_
          intro x
          have M4 := HM3.out.below x.h
          have b4 := B3.out.trans (x.h.mono B3.out.size)
          replace p0 := (x.h.cell (p := ⟨b23, 0, none⟩) l23).trans p0
          replace p1 := (x.h.cell (p := ⟨b23, 1, none⟩) l23).trans p1
          replace ok1 := (x.h.cell (p := ⟨b20, 1, none⟩) l20').trans ok1
          replace l23 := Nat.lt_of_lt_of_le l23 x.h.size
          replace l20' := Nat.lt_of_lt_of_le l20' x.h.size
          generalize x.i = W4 at *
          clear x cs cm KL KR HM3 B3 lbs lbm W3
          have hal2 : ∀ (k : Nat) (a : Un), (us.set q u')[k]? = some a → a.all.length ≤ i + 1 := fun k a ha => by
            rw [List.getElem?_set] at ha
            split at ha
            · split at ha
              · cases ha; have := HAL.out q u HU.out; omega
              · cases ha
            · have := HAL.out k a ha; omega
          have HAL2 := Lib.hid hal2
          have HM4 := Lib.hid M4; have B4 := Lib.hid b4
          clear hal2 M4 b4
          go_wp2_with fail
          refine (K5.out _ (by decide) (by decide)).mono ?_
          rintro e W ⟨rfl, rfl⟩
          by_cases hR0 : R5 = 0
          · subst hR0
            by_cases hg0 : 0 < hg
            · have t1 : decide (0 < hg) = true := decide_eq_true hg0
              have hlit : (W4.alloc (.cells #[.int .i64 hs, .int .i64 hg] 32)).heap[W4.heap.size]? = some (.cells #[.int .i64 hs, .int .i64 hg] 32 (0, 0)) := heap_alloc_new W4 _
              have M5 := HM4.out.alloc (.cells #[.int .i64 hs, .int .i64 hg] 32)
              have b5 := B4.out.alloc B4.out.size (.cells #[.int .i64 hs, .int .i64 hg] 32)
              have HL := Lib.hid hlit; have HM5 := Lib.hid M5; have B5 := Lib.hid b5
              have hrow := M5.row
              rw [← HTT.out] at hrow
              have HROW := Lib.hid hrow
              clear hlit M5 b5 hrow
              go_wp2_with (at_builtin; refine wpList_append_lies _ rfl _ _ 29 (by rfl) (b3 + 3) 32 i2 (.agg #[.int .i64 0, .int .i64 0]) 2 16 Try.underlying29 hi2 iz0 iz1 iz2 rfl (by decide) _ TT (hcells told) (by rfl) HROW.out ⟨W4.heap.size, 0, none⟩ 1 1 [.int .i64 hs, .int .i64 hg] (by rfl) rfl (World.news_of_block HL.out) (by intro u hu; simp at hu; rcases hu with rfl | rfl <;> rfl) (by decide) (by unfold maxLen; omega) (by omega) HM5.out.ord.2.2.2 (W4.heap.size + 1) (by simp) ?_; intro k7 cc7 W7 own7 grow7 at7 lt7)
              rw [HTT.out] at own7 ⊢
              have M7 := HM5.out.app own7 grow7 (at7.imp id (fun e => by rw [e]; simp))
              have b7 := B5.out.trans (grown_belowB grow7 (fun j hj => by have := (HM5.out.row.lt j hj).1; omega) B5.out.size)
              go_roundg (gk - 1)
              case measure => omega
              case rel => exact ⟨i + 1, us.set q u', told ++ [(hs, hg)], by omega, by go_num, M7, HAL2.out, by rw [List.length_append, List.length_singleton, ← HTT.out]; omega, b7⟩
            · have t1 : decide (0 < hg) = false := decide_eq_false hg0
              go_wp2_with fail
              go_roundg (gk - 1)
              case measure => omega
              case rel => exact ⟨i + 1, us.set q u', told, by omega, by go_num, HM4.out, HAL2.out, by rw [← HTT.out]; omega, B4.out⟩
          · have t0 : (R5 == 0) = false := by simpa using hR0
            have t0' : decide (R5 = 0) = false := decide_eq_false hR0
            go_wp2_with fail
            go_roundg (gk - 1)
            case measure => omega
            case rel => exact ⟨i + 1, us.set q u', told, by omega, by go_num, HM4.out, HAL2.out, by rw [← HTT.out]; omega, B4.out⟩
      · obtain rfl : i = n := by omega
        clear HH hi htl hlt
        go_wp2_with fail
        go_loopg [26] 4 (fun gk v26 wr => ∃ (j : Nat), j + gk = 4 ∧ v26 = .int .i64 j ∧ PM w.heap.size (b3 + 3) (b3 + 1) (b3 + 2) wr us u18 told ∧ Below w.heap.size w wr)
        case atStart => exact ⟨0, rfl, rfl, M, hb⟩
        case round =>
          clear M hb wo ord
          obtain ⟨wo, rfl⟩ : ∃ wo : World, wo = wr := ⟨_, rfl⟩
          obtain ⟨q, hq, rfl, M, hb⟩ := hrel
          by_cases hlt : q < 4
          · obtain ⟨u, hu⟩ : ∃ u, us[q]? = some u := ⟨_, List.getElem?_eq_getElem (by rw [HLEN.out]; exact hlt)⟩
            have hm : u.all.length ≤ 1048576 := by have := HAL.out q u hu; omega
            have cs := (M.un q u hu).s_
            have lbs : b3 + 1 < wo.heap.size := by have := M.ord; omega
            have K23 := Lib.hid (M.listc hu hm)
            have K26 := Lib.hid (fun (z z2 : World) (v' : Value) (hz : Below wo.heap.size wo z) (hv : z.ownsRow z2.heap.size 82 4 v' (u.l.filterMap heldOf).length (hvs (u.l.filterMap heldOf))) => M.hasc hu z hz hv)
            have HM := Lib.hid M; have HB := Lib.hid hb
            clear M hb hu
            go_upto_region 26 with fail
            go_cut [169] from 156 to 169 (fun s wx => s = .bool false ∧ Below wo.heap.size wo wx)
            case first =>
              go_region_held3 (fun w' => w'.cell? ⟨b3 + 1, q, none⟩ = some (.pointer u.p)) (go_keep)
                (first | (go_at_call 23; refine Calls.mono (K23.out _ ((Below.refl _ _).drew)) ?_; rintro e W1 ⟨v', rfl, b1, own1⟩; have bW1 := (Below.refl _ wo).drew.trans b1; have cs1 := (bW1.cell (p := ⟨b3 + 1, q, none⟩) lbs).trans cs) | (go_at_call 26; refine Calls.mono (K26.out _ _ _ bW1 own1) ?_; rintro e W2 ⟨rfl, z, rfl⟩; have bW2 := bW1.trans (z.h.mono bW1.size); have cs2 := (bW2.cell (p := ⟨b3 + 1, q, none⟩) lbs).trans cs))
              all_goals (try dsimp only)
              all_goals go_wp2_with fail
              all_goals go_meet
              all_goals exact ⟨rfl, bW2⟩
            case rest =>
              obtain ⟨rfl, hbx⟩ := hcut
              go_wp2_with fail
              go_roundg (gk - 1)
              case measure => omega
              case rel => exact ⟨q + 1, by omega, by go_num, HM.out.below hbx, HB.out.trans (hbx.mono HB.out.size)⟩
          · obtain rfl : q = 4 := by omega
            go_wp2_with fail
            refine (lives_ok _).mono ?_
            rintro e W' ⟨rfl, z, rfl⟩
            go_wp2_with fail
            go_ret
            exact gives_of_eq rfl (hb.trans (z.h.mono hb.size))


end Go.Proofs.Ytpnegofmebfcgaa
