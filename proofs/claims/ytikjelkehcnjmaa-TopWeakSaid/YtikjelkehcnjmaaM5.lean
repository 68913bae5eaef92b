/- Top: the best matching by potentials over a square, plain: how it stands ahead of a row, within a row, within a scan. Rows and columns are counted from 1 on. -/
import Derived.Test.YtikjelkehcnjmaaM4
namespace Go.Proofs.Ytikjelkehcnjmaa
set_option linter.unusedVariables false
def upn (f : Nat → Nat) (j x : Nat) : Nat → Nat := fun i => if i = j then x else f i
theorem upn_self (f : Nat → Nat) (j x : Nat) : upn f j x j = x := if_pos rfl
theorem upn_ne {f : Nat → Nat} {j x i : Nat} (h : i ≠ j) : upn f j x i = f i := if_neg h
theorem up_self (f : Nat → Int) (j : Nat) (x : Int) : up f j x j = x := if_pos rfl
theorem up_ne {f : Nat → Int} {j i : Nat} {x : Int} (h : i ≠ j) : up f j x i = f i := if_neg h
def FAR : Int := 1152921504606846976
/-- how it stands ahead of row r -/
structure HO (n r : Nat) (w : Nat → Nat → Int) (B : Int) (u v : Nat → Int) (p : Nat → Nat) : Prop where
  lt : ∀ c, 1 ≤ c → c ≤ n → p c < r
  inj : ∀ c c', 1 ≤ c → c ≤ n → 1 ≤ c' → c' ≤ n → p c = p c' → p c ≠ 0 → c = c'
  cov : ∀ i, 1 ≤ i → i < r → ∃ c, 1 ≤ c ∧ c ≤ n ∧ p c = i
  feas : ∀ i c, 1 ≤ i → i < r → 1 ≤ c → c ≤ n → u i + v c ≤ - w (i - 1) (c - 1)
  tight : ∀ c, 1 ≤ c → c ≤ n → p c ≠ 0 → u (p c) + v c = - w (p c - 1) (c - 1)
  free : ∀ c, 1 ≤ c → c ≤ n → p c = 0 → v c = 0
  some0 : 1 < r → ∃ c, 1 ≤ c ∧ c ≤ n ∧ v c = 0
  vle : ∀ c, 1 ≤ c → c ≤ n → - B ≤ v c ∧ v c ≤ 0
  ule : ∀ i, 1 ≤ i → i < r → - B ≤ u i ∧ u i ≤ 0
  u0 : ∀ i, r ≤ i → u i = 0
  v0 : 0 ≤ v 0 ∧ v 0 ≤ r * B
/-- how it stands within row r, ahead of a look at column a -/
structure HI (n r : Nat) (w : Nat → Nat → Int) (B V0 : Int) (u v : Nat → Int) (p way : Nat → Nat) (ls : Nat → Int) (U : Nat → Bool) (a : Nat) (rk : Nat → Nat) : Prop where
  rn : 1 ≤ r ∧ r ≤ n
  p0 : p 0 = r
  lt : ∀ c, 1 ≤ c → c ≤ n → p c < r
  inj : ∀ c c', 1 ≤ c → c ≤ n → 1 ≤ c' → c' ≤ n → p c = p c' → p c ≠ 0 → c = c'
  cov : ∀ i, 1 ≤ i → i < r → ∃ c, 1 ≤ c ∧ c ≤ n ∧ p c = i
  an : a ≤ n
  aU : U a = false
  Un : ∀ c, U c = true → c ≤ n ∧ p c ≠ 0
  st : U 0 = true ∨ (a = 0 ∧ ∀ c, U c = false)
  tree : ∀ c, U c = true → c ≠ 0 → U (way c) = true ∧ rk (way c) < rk c ∧ u (p (way c)) + v c = - w (p (way c) - 1) (c - 1)
  atree : a ≠ 0 → U (way a) = true ∧ u (p (way a)) + v a = - w (p (way a) - 1) (a - 1)
  feas : ∀ i c, 1 ≤ i → (i < r ∨ (i = r ∧ U 0 = true)) → 1 ≤ c → c ≤ n → u i + v c ≤ - w (i - 1) (c - 1)
  tight : ∀ c, 1 ≤ c → c ≤ n → p c ≠ 0 → u (p c) + v c = - w (p c - 1) (c - 1)
  free : ∀ c, 1 ≤ c → c ≤ n → p c = 0 → v c = 0
  ls1 : U 0 = true → ∀ c, 1 ≤ c → c ≤ n → U c = false → (∀ d, U d = true → ls c ≤ - w (p d - 1) (c - 1) - u (p d) - v c) ∧ U (way c) = true ∧ ls c = - w (p (way c) - 1) (c - 1) - u (p (way c)) - v c
  ls0 : U 0 = false → ∀ c, 1 ≤ c → c ≤ n → ls c = FAR
  vle : ∀ c, 1 ≤ c → c ≤ n → - B ≤ v c ∧ v c ≤ 0
  ule : ∀ i, 1 ≤ i → (i < r ∨ (i = r ∧ U 0 = true)) → - B ≤ u i ∧ u i ≤ 0
  ur : U 0 = false → u r = 0
  u0 : ∀ i, r < i → u i = 0
  v0 : v 0 = V0 - u r ∧ 0 ≤ V0 ∧ V0 ≤ r * B
section
variable {n r : Nat} {w : Nat → Nat → Int} {B V0 : Int} {u v : Nat → Int} {p way : Nat → Nat} {ls : Nat → Int} {U : Nat → Bool} {a : Nat} {rk : Nat → Nat}
/-- while rows are left, a column is free -/
theorem free_col (hr : 1 ≤ r ∧ r ≤ n) (hlt : ∀ c, 1 ≤ c → c ≤ n → p c < r) (hinj : ∀ c c', 1 ≤ c → c ≤ n → 1 ≤ c' → c' ≤ n → p c = p c' → p c ≠ 0 → c = c') : ∃ c, 1 ≤ c ∧ c ≤ n ∧ p c = 0 := by
  refine Classical.byContradiction fun h => ?_
  have h' : ∀ c, 1 ≤ c → c ≤ n → p c ≠ 0 := fun c h1 h2 e => h ⟨c, h1, h2, e⟩
  obtain ⟨i, j, h1, h2, h3⟩ := php (n - 1) (fun i => p (i + 1) - 1) (fun i hi => by
    have := hlt (i + 1) (by omega) (by omega)
    have := h' (i + 1) (by omega) (by omega)
    omega)
  have a1 := h' (i + 1) (by omega) (by omega)
  have a2 := h' (j + 1) (by omega) (by omega)
  have := hinj (i + 1) (j + 1) (by omega) (by omega) (by omega) (by omega) (by omega) a1
  omega
theorem HO.start (h : HO n r w B u v p) (hr : 1 ≤ r ∧ r ≤ n) : HI n r w B (v 0) u v (upn p 0 r) way (fun _ => FAR) (fun _ => false) 0 rk := by
  have e : ∀ c, 1 ≤ c → upn p 0 r c = p c := fun c hc => if_neg (by omega)
  refine { rn := hr, p0 := if_pos rfl, an := by omega, aU := rfl, st := .inr ⟨rfl, fun _ => rfl⟩, vle := h.vle, lt := ?_, inj := ?_, cov := ?_, Un := ?_, tree := ?_, atree := ?_, feas := ?_, tight := ?_, free := ?_, ls1 := ?_, ls0 := ?_, ule := ?_, ur := ?_, u0 := ?_, v0 := ?_ }
  · intro c h1 h2; rw [e c h1]; exact h.lt c h1 h2
  · intro c c' h1 h2 h3 h4; rw [e c h1, e c' h3]; exact h.inj c c' h1 h2 h3 h4
  · intro i h1 h2
    obtain ⟨c, h3, h4, h5⟩ := h.cov i h1 h2
    exact ⟨c, h3, h4, (e c h3).trans h5⟩
  · intro c hc; cases hc
  · intro c hc; cases hc
  · intro hc; exact absurd rfl hc
  · intro i c h1 h2 h3 h4
    rcases h2 with h2 | ⟨_, h2⟩
    · exact h.feas i c h1 h2 h3 h4
    · cases h2
  · intro c h1 h2; rw [e c h1]; exact h.tight c h1 h2
  · intro c h1 h2; rw [e c h1]; exact h.free c h1 h2
  · intro hc; cases hc
  · intro _ c _ _; rfl
  · intro i h1 h2
    rcases h2 with h2 | ⟨_, h2⟩
    · exact h.ule i h1 h2
    · cases h2
  · intro _; exact h.u0 r (Nat.le_refl _)
  · intro i hi; exact h.u0 i (by omega)
  · have := h.u0 r (Nat.le_refl _); have := h.v0; omega
/-- columns up to j are looked at, in view of column a -/
structure Scan (n : Nat) (w : Nat → Nat → Int) (u v : Nat → Int) (p way : Nat → Nat) (ls : Nat → Int) (U : Nat → Bool) (j : Nat) (way' : Nat → Nat) (ls' : Nat → Int) (by_ : Int) (nx : Nat) : Prop where
  seen : ∀ c, 1 ≤ c → c ≤ n → c < j → U c = false → (∀ d, U d = true → ls' c ≤ - w (p d - 1) (c - 1) - u (p d) - v c) ∧ U (way' c) = true ∧ ls' c = - w (p (way' c) - 1) (c - 1) - u (p (way' c)) - v c ∧ by_ ≤ ls' c
  same : ∀ c, j ≤ c ∨ U c = true → ls' c = ls c ∧ way' c = way c
  next : (nx = 0 ∧ by_ = FAR ∧ ∀ c, 1 ≤ c → c ≤ n → c < j → U c = true) ∨ (1 ≤ nx ∧ nx ≤ n ∧ nx < j ∧ U nx = false ∧ ls' nx = by_)
theorem scan_first : Scan n w u v p way ls U 1 way ls FAR 0 :=
  ⟨fun c h1 _ h2 => by omega, fun c _ => ⟨rfl, rfl⟩, .inl ⟨rfl, rfl, fun c h1 _ h2 => by omega⟩⟩
variable {way' : Nat → Nat} {ls' : Nat → Int} {b : Int} {nx j : Nat}
theorem Scan.skip (h : Scan n w u v p way ls U j way' ls' b nx) (hj : U j = true) : Scan n w u v p way ls U (j + 1) way' ls' b nx := by
  refine ⟨fun c h1 h2 h3 h4 => h.seen c h1 h2 (by
    by_cases e : c = j
    · subst e; rw [hj] at h4; cases h4
    · omega) h4, fun c hc => h.same c (hc.imp_left (fun x => by omega)), ?_⟩
  rcases h.next with ⟨h1, h2, h3⟩ | ⟨h1, h2, h3, h4⟩
  · exact .inl ⟨h1, h2, fun c g1 g2 g3 => by
      by_cases e : c = j
      · subst e; exact hj
      · exact h3 c g1 g2 (by omega)⟩
  · exact .inr ⟨h1, h2, by omega, h4⟩
/-- what is known of an unused column when a is used too -/
def Lst1 (w : Nat → Nat → Int) (u v : Nat → Int) (p : Nat → Nat) (U : Nat → Bool) (c : Nat) (l : Int) (wy : Nat) : Prop :=
  (∀ d, U d = true → l ≤ - w (p d - 1) (c - 1) - u (p d) - v c) ∧ U wy = true ∧ l = - w (p wy - 1) (c - 1) - u (p wy) - v c
theorem HI.left (h : HI n r w B V0 u v p way ls U a rk) (hw : ∀ i c, 0 ≤ w i c ∧ w i c ≤ B) (hB : 0 ≤ B) (ha : p a ≠ 0) {c : Nat} (h1 : 1 ≤ c) (h2 : c ≤ n) : - B ≤ - w (p a - 1) (c - 1) - u (p a) - v c ∧ - w (p a - 1) (c - 1) - u (p a) - v c ≤ 2 * B ∧ - B ≤ u (p a) ∧ u (p a) ≤ 0 := by
  have hv := h.vle c h1 h2
  have hww := hw (p a - 1) (c - 1)
  have hu : - B ≤ u (p a) ∧ u (p a) ≤ 0 := by
    by_cases e : a = 0
    · subst e; rw [h.p0]
      by_cases q : U 0 = true
      · exact h.ule r h.rn.1 (.inr ⟨rfl, q⟩)
      · rw [h.ur (ff_of q)]; omega
    · have := h.lt a (by omega) h.an
      exact h.ule (p a) (by omega) (.inl this)
  omega
/-- the look at column j that is not used: its least is renewed -/
theorem HI.look (h : HI n r w B V0 u v p way ls U a rk) (hw : ∀ i c, 0 ≤ w i c ∧ w i c ≤ B) (hB : 0 ≤ B ∧ 2 * B < FAR) (ha : p a ≠ 0) {c : Nat} (h1 : 1 ≤ c) (h2 : c ≤ n) (hc : mark U a c = false) :
    (- w (p a - 1) (c - 1) - u (p a) - v c < ls c → Lst1 w u v p (mark U a) c (- w (p a - 1) (c - 1) - u (p a) - v c) a) ∧ (¬ - w (p a - 1) (c - 1) - u (p a) - v c < ls c → Lst1 w u v p (mark U a) c (ls c) (way c)) := by
  obtain ⟨hne, hcU⟩ := mark_false hc
  have hl := h.left hw hB.1 ha h1 h2
  refine ⟨fun hx => ⟨fun d hd => ?_, mark_self _ _, rfl⟩, fun hx => ?_⟩
  · by_cases e : d = a
    · subst e; exact Int.le_refl _
    · rw [mark_ne e] at hd
      rcases h.st with s | ⟨_, s⟩
      · have := (h.ls1 s c h1 h2 hcU).1 d hd; omega
      · rw [s d] at hd; cases hd
  · rcases h.st with s | ⟨s0, s⟩
    · obtain ⟨l1, l2, l3⟩ := h.ls1 s c h1 h2 hcU
      refine ⟨fun d hd => ?_, mark_of l2, l3⟩
      by_cases e : d = a
      · subst e; omega
      · rw [mark_ne e] at hd; exact l1 d hd
    · have := h.ls0 (s 0) c h1 h2
      omega
/-- the scan's step at a column that is not used -/
theorem Scan.step (h : Scan n w u v p way ls U j way' ls' b nx) (h1 : 1 ≤ j) (h2 : j ≤ n) (hj : U j = false) {l : Int} {wy : Nat} (hl : Lst1 w u v p U j l wy) {ls2 : Nat → Int} {way2 : Nat → Nat} (e1 : ls2 = up ls' j l) (e2 : way2 = upn way' j wy) (hlF : l < FAR) :
    (l < b → Scan n w u v p way ls U (j + 1) way2 ls2 l j) ∧ (¬ l < b → Scan n w u v p way ls U (j + 1) way2 ls2 b nx) := by
  subst e1 e2
  have seen : ∀ x, x ≤ l → x ≤ b → ∀ c, 1 ≤ c → c ≤ n → c < j + 1 → U c = false → (∀ d, U d = true → up ls' j l c ≤ - w (p d - 1) (c - 1) - u (p d) - v c) ∧ U (upn way' j wy c) = true ∧ up ls' j l c = - w (p (upn way' j wy c) - 1) (c - 1) - u (p (upn way' j wy c)) - v c ∧ x ≤ up ls' j l c := fun x hx hx' c g1 g2 g3 g4 => by
    by_cases e : c = j
    · subst e; rw [up_self, upn_self]; exact ⟨hl.1, hl.2.1, hl.2.2, hx⟩
    · rw [up_ne e, upn_ne e]
      obtain ⟨s1, s2, s3, s4⟩ := h.seen c g1 g2 (by omega) g4
      exact ⟨s1, s2, s3, by omega⟩
  have same : ∀ c, j + 1 ≤ c ∨ U c = true → up ls' j l c = ls c ∧ upn way' j wy c = way c := fun c hc => by
    have e : c ≠ j := by
      rcases hc with hc | hc
      · omega
      · intro e; subst e; rw [hj] at hc; cases hc
    rw [up_ne e, upn_ne e]; exact h.same c (hc.imp_left (fun x => by omega))
  refine ⟨fun hx => ⟨seen l (Int.le_refl _) (by omega), same, .inr ⟨h1, h2, by omega, hj, up_self _ _ _⟩⟩, fun hx => ⟨seen b (by omega) (Int.le_refl _), same, ?_⟩⟩
  rcases h.next with ⟨g1, g2, g3⟩ | ⟨g1, g2, g3, g4, g5⟩
  · omega
  · exact .inr ⟨g1, g2, by omega, g4, by rw [up_ne (by omega)]; exact g5⟩
/-- behind the scan some column is next -/
theorem HI.found (h : HI n r w B V0 u v p way ls U a rk) (ha : p a ≠ 0) (s : Scan n w u v p way ls (mark U a) (n + 1) way' ls' b nx) : 1 ≤ nx ∧ nx ≤ n ∧ mark U a nx = false ∧ ls' nx = b := by
  rcases s.next with ⟨g1, g2, g3⟩ | ⟨g1, g2, g3, g4, g5⟩
  · obtain ⟨c, c1, c2, c3⟩ := free_col h.rn h.lt h.inj
    have := g3 c c1 c2 (by omega)
    by_cases e : c = a
    · subst e; exact absurd c3 ha
    · rw [mark_ne e] at this
      exact absurd c3 (h.Un c this).2
  · exact ⟨g1, g2, g4, g5⟩
end
end Go.Proofs.Ytikjelkehcnjmaa
