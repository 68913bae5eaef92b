/- Top: potentials: the way back; the end of a row; what all rows come to. -/
import Derived.Test.YtikjelkehcnjmaaM6
namespace Go.Proofs.Ytikjelkehcnjmaa
set_option linter.unusedVariables false
/-- on the way back: the column t has no row, or will have that of the column ahead of it -/
structure HA (n r : Nat) (w : Nat → Nat → Int) (u v : Nat → Int) (p way rk : Nat → Nat) (T : Nat → Bool) (q : Nat → Nat) (t : Nat) : Prop where
  tn : t ≤ n
  tT : T t = true
  old : ∀ c, T c = true → rk c ≤ rk t → q c = p c
  inj : ∀ c c', c ≤ n → c' ≤ n → c ≠ t → c' ≠ t → q c = q c' → q c ≠ 0 → c = c'
  cov : ∀ i, 1 ≤ i → i ≤ r → ∃ c, c ≤ n ∧ c ≠ t ∧ q c = i
  tight : ∀ c, 1 ≤ c → c ≤ n → c ≠ t → q c ≠ 0 → u (q c) + v c = - w (q c - 1) (c - 1)
  free : ∀ c, 1 ≤ c → c ≤ n → c ≠ t → q c = 0 → v c = 0
  le : ∀ c, c ≤ n → c ≠ t → q c ≤ r
structure Tree (n : Nat) (w : Nat → Nat → Int) (u v : Nat → Int) (p way rk : Nat → Nat) (T : Nat → Bool) : Prop where
  go : ∀ c, T c = true → c ≠ 0 → c ≤ n ∧ T (way c) = true ∧ way c ≤ n ∧ rk (way c) < rk c ∧ p (way c) ≠ 0 ∧ u (p (way c)) + v c = - w (p (way c) - 1) (c - 1)
section
variable {n r : Nat} {w : Nat → Nat → Int} {B V0 : Int} {u v : Nat → Int} {p way : Nat → Nat} {ls : Nat → Int} {U : Nat → Bool} {a : Nat} {rk : Nat → Nat} {T : Nat → Bool} {q : Nat → Nat} {t : Nat}
theorem HI.ne0 (h : HI n r w B V0 u v p way ls U a rk) (ha : p a = 0) : a ≠ 0 ∧ U 0 = true := by
  have a0 : a ≠ 0 := fun e => by subst e; rw [h.p0] at ha; have := h.rn; omega
  refine ⟨a0, ?_⟩
  rcases h.st with s | ⟨s, _⟩
  · exact s
  · exact absurd s a0
theorem HI.theTree (h : HI n r w B V0 u v p way ls U a rk) (ha : p a = 0) : Tree n w u v p way (upn rk a (rk (way a) + 1)) (mark U a) := by
  obtain ⟨a0, U0⟩ := h.ne0 ha
  refine ⟨fun c hc c0 => ?_⟩
  by_cases e : c = a
  · subst e
    obtain ⟨t1, t2⟩ := h.atree c0
    have ne : way c ≠ c := fun x => by rw [x, h.aU] at t1; cases t1
    have := h.Un _ t1
    exact ⟨h.an, mark_of t1, this.1, by rw [upn_ne ne, upn_self]; omega, this.2, t2⟩
  · have hc' := hc
    rw [mark_ne e] at hc'
    obtain ⟨t1, t2, t3⟩ := h.tree c hc' c0
    have ne : way c ≠ a := fun x => by rw [x, h.aU] at t1; cases t1
    have := h.Un _ t1
    exact ⟨(h.Un c hc').1, mark_of t1, this.1, by rw [upn_ne ne, upn_ne e]; exact t2, this.2, t3⟩
theorem HI.back (h : HI n r w B V0 u v p way ls U a rk) (ha : p a = 0) : HA n r w u v p way (upn rk a (rk (way a) + 1)) (mark U a) p a := by
  obtain ⟨a0, U0⟩ := h.ne0 ha
  refine ⟨h.an, mark_self _ _, fun _ _ _ => rfl, fun c c' h1 h2 h3 h4 e e0 => ?_, fun i h1 h2 => ?_, fun c h1 h2 _ => h.tight c h1 h2, fun c h1 h2 _ => h.free c h1 h2, fun c h1 _ => ?_⟩
  · by_cases x : c = 0 <;> by_cases y : c' = 0
    · omega
    · subst x; rw [h.p0] at e; have := h.lt c' (by omega) h2; omega
    · subst y; rw [h.p0] at e; have := h.lt c (by omega) h1; omega
    · exact h.inj c c' (by omega) h1 (by omega) h2 e e0
  · by_cases x : i = r
    · exact ⟨0, Nat.zero_le _, fun e => a0 e.symm, by rw [h.p0, x]⟩
    · obtain ⟨c, c1, c2, c3⟩ := h.cov i h1 (by omega)
      exact ⟨c, c2, fun e => by subst e; omega, c3⟩
  · by_cases x : c = 0
    · subst x; rw [h.p0]; exact Nat.le_refl _
    · have := h.lt c (by omega) h1; omega
theorem HA.step (h : HA n r w u v p way rk T q t) (hT : Tree n w u v p way rk T) (ht : t ≠ 0) : HA n r w u v p way rk T (upn q t (q (way t))) (way t) ∧ rk (way t) < rk t := by
  obtain ⟨g1, g2, g3, g4, g5, g6⟩ := hT.go t h.tT ht
  have ne : way t ≠ t := fun e => by rw [e] at g4; omega
  have qs : q (way t) = p (way t) := h.old _ g2 (by omega)
  refine ⟨⟨g3, g2, fun c hc hr => ?_, fun c c' h1 h2 h3 h4 e e0 => ?_, fun i h1 h2 => ?_, fun c h1 h2 h3 h4 => ?_, fun c h1 h2 h3 h4 => ?_, fun c h1 h2 => ?_⟩, g4⟩
  · have e : c ≠ t := fun e => by subst e; omega
    rw [upn_ne e]; exact h.old c hc (by omega)
  · by_cases x : c = t <;> by_cases y : c' = t
    · omega
    · subst x; rw [upn_self, upn_ne y] at e; rw [upn_self] at e0
      exact absurd (h.inj (way c) c' g3 h2 ne y e e0).symm h4
    · subst y; rw [upn_self, upn_ne x] at e; rw [upn_ne x] at e0
      exact absurd (h.inj c (way c') h1 g3 x ne e e0) h3
    · rw [upn_ne x, upn_ne y] at e; rw [upn_ne x] at e0
      exact h.inj c c' h1 h2 x y e e0
  · obtain ⟨c, c1, c2, c3⟩ := h.cov i h1 h2
    by_cases x : c = way t
    · subst x; exact ⟨t, h.tn, fun e => ne e.symm, by rw [upn_self]; exact c3⟩
    · exact ⟨c, c1, x, by rw [upn_ne c2]; exact c3⟩
  · by_cases x : c = t
    · subst x; rw [upn_self, qs]; exact g6
    · rw [upn_ne x] at h4 ⊢; exact h.tight c h1 h2 x h4
  · by_cases x : c = t
    · subst x; rw [upn_self, qs] at h4; exact absurd h4 g5
    · rw [upn_ne x] at h4; exact h.free c h1 h2 x h4
  · by_cases x : c = t
    · subst x; rw [upn_self]; exact h.le _ g3 ne
    · rw [upn_ne x]; exact h.le c h1 x
theorem HI.done (h : HI n r w B V0 u v p way ls U a rk) (ha : p a = 0) {rk2 : Nat → Nat} {T2 : Nat → Bool} (g : HA n r w u v p way rk2 T2 q 0) : HO n (r + 1) w B u v q := by
  obtain ⟨a0, U0⟩ := h.ne0 ha
  have ne : ∀ c, 1 ≤ c → c ≠ 0 := fun c hc => by omega
  have io : ∀ i, i < r + 1 → i < r ∨ (i = r ∧ U 0 = true) := fun i hi => by
    by_cases e : i < r
    · exact .inl e
    · exact .inr ⟨by omega, U0⟩
  refine ⟨fun c h1 h2 => by have := g.le c h2 (ne c h1); omega, fun c c' h1 h2 h3 h4 => g.inj c c' h2 h4 (ne c h1) (ne c' h3), fun i h1 h2 => ?_, fun i c h1 h2 => h.feas i c h1 (io i h2), fun c h1 h2 => g.tight c h1 h2 (ne c h1), fun c h1 h2 => g.free c h1 h2 (ne c h1), fun _ => ⟨a, by omega, h.an, h.free a (by omega) h.an ha⟩, h.vle, fun i h1 h2 => h.ule i h1 (io i h2), fun i hi => h.u0 i (by omega), ?_⟩
  · obtain ⟨c, c1, c2, c3⟩ := g.cov i h1 (by omega)
    exact ⟨c, by omega, c1, c3⟩
  · have a1 := h.v0
    have a2 := h.ule r h.rn.1 (.inr ⟨rfl, U0⟩)
    have : ((r + 1 : Nat) : Int) * B = r * B + B := by rw [Int.natCast_add, Int.add_mul]; simp
    omega
/-- columns up to j are written down -/
structure FT (n : Nat) (w : Nat → Nat → Int) (p : Nat → Nat) (j : Nat) (f : Nat → Option Nat) : Prop where
  got : ∀ r c, f r = some c → c + 1 < j ∧ p (c + 1) = r + 1 ∧ 0 < w r c
  all : ∀ c, 1 ≤ c → c < j → p c ≠ 0 → 0 < w (p c - 1) (c - 1) → f (p c - 1) ≠ none
theorem ft_first : FT n w p 1 (fun _ => none) := ⟨fun r c h => (by cases h), fun c h1 h2 => by omega⟩
variable {f : Nat → Option Nat} {j : Nat}
theorem FT.skip (h : FT n w p j f) (hj : p j = 0 ∨ ¬ 0 < w (p j - 1) (j - 1)) : FT n w p (j + 1) f := by
  refine ⟨fun r c e => by obtain ⟨a1, a2⟩ := h.got r c e; exact ⟨by omega, a2⟩, fun c h1 h2 h3 h4 => ?_⟩
  by_cases x : c = j
  · subst x; rcases hj with hj | hj
    · exact absurd hj h3
    · exact absurd h4 hj
  · exact h.all c h1 (by omega) h3 h4
theorem FT.take (h : FT n w p j f) (h1 : 1 ≤ j) (hp : p j ≠ 0) (hw : 0 < w (p j - 1) (j - 1)) : FT n w p (j + 1) (give f (p j - 1) (j - 1)) := by
  refine ⟨fun r c e => ?_, fun c g1 g2 g3 g4 => ?_⟩
  · by_cases x : r = p j - 1
    · subst x; rw [give_self] at e; injection e with e; subst e
      refine ⟨by omega, ?_, hw⟩
      rw [show j - 1 + 1 = j by omega]; omega
    · rw [give_ne x] at e
      obtain ⟨a1, a2⟩ := h.got r c e
      exact ⟨by omega, a2⟩
  · by_cases x : p c - 1 = p j - 1
    · rw [x, give_self]; simp
    · rw [give_ne x]
      exact h.all c g1 (by
        by_cases y : c = j
        · subst y; exact absurd rfl x
        · omega) g3 g4
/-- what all rows come to: a matching, and prices that bear the graph and stand with it -/
theorem HO.end_ (h : HO n (n + 1) w B u v p) {m k : Nat} (hm : m ≤ n) (hk : k ≤ n) (h0 : ∀ r c, 0 ≤ w r c) (hin : ∀ r c, 0 < w r c → r < m ∧ c < k) (g : FT n w p (n + 1) f) :
    Mat m k w f ∧ Dual m k w (fun r => - u (r + 1)) (fun c => - v (c + 1)) ∧ Comp m k w f (fun r => - u (r + 1)) (fun c => - v (c + 1)) := by
  refine ⟨⟨fun r c hr e => ?_, fun r r' c hr hr' e e' => ?_⟩, ⟨fun r hr => ?_, fun c hc => ?_, fun r c hr hc => ?_⟩, ⟨fun r c hr e => ?_, fun r hr e => ?_, fun c hc hn => ?_⟩⟩
  · obtain ⟨a1, a2, a3⟩ := g.got r c e
    exact ⟨(hin r c a3).2, a3⟩
  · obtain ⟨a1, a2, a3⟩ := g.got r c e
    obtain ⟨b1, b2, b3⟩ := g.got r' c e'
    omega
  · have := (h.ule (r + 1) (by omega) (by omega)).2; omega
  · have := (h.vle (c + 1) (by omega) (by omega)).2; omega
  · have := h.feas (r + 1) (c + 1) (by omega) (by omega) (by omega) (by omega)
    rw [Nat.add_sub_cancel, Nat.add_sub_cancel] at this; omega
  · obtain ⟨a1, a2, a3⟩ := g.got r c e
    have := h.tight (c + 1) (by omega) (by omega) (by omega)
    rw [a2, Nat.add_sub_cancel, Nat.add_sub_cancel] at this; omega
  · obtain ⟨c, c1, c2, c3⟩ := h.cov (r + 1) (by omega) (by omega)
    have t := h.tight c c1 c2 (by omega)
    rw [c3] at t
    have w0 : ¬ 0 < w (r + 1 - 1) (c - 1) := fun x => by
      have := g.all c c1 (by omega) (by omega) (by rw [c3]; exact x)
      rw [c3, Nat.add_sub_cancel] at this
      exact this e
    have := h0 (r + 1 - 1) (c - 1)
    have := h.ule (r + 1) (by omega) (by omega)
    have := h.vle c c1 c2
    omega
  · have hv := h.vle (c + 1) (by omega) (by omega)
    by_cases x : p (c + 1) = 0
    · have := h.free (c + 1) (by omega) (by omega) x; omega
    · have t := h.tight (c + 1) (by omega) (by omega) x
      have lt := h.lt (c + 1) (by omega) (by omega)
      have := h.ule (p (c + 1)) (by omega) lt
      have z := h0 (p (c + 1) - 1) (c + 1 - 1)
      have w0 : ¬ 0 < w (p (c + 1) - 1) (c + 1 - 1) := fun y => by
        have y' := hin _ _ y
        have := g.all (c + 1) (by omega) (by omega) x y
        cases e : f (p (c + 1) - 1) with
        | none => exact this e
        | some d =>
          obtain ⟨a1, a2, a3⟩ := g.got _ d e
          have := h.inj (d + 1) (c + 1) (by omega) (by omega) (by omega) (by omega) (by omega) (by omega)
          have : d = c := by omega
          subst this
          exact hn _ (by omega) e
      omega
end
end Go.Proofs.Ytikjelkehcnjmaa
