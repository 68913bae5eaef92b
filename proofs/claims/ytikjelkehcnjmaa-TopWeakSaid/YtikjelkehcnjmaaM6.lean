/- Top: potentials: what is added and taken behind a scan; the next column. -/
import Derived.Test.YtikjelkehcnjmaaM5
namespace Go.Proofs.Ytikjelkehcnjmaa
set_option linter.unusedVariables false
def Hit (U : Nat → Bool) (p : Nat → Nat) (j i : Nat) : Prop := ∃ c, c < j ∧ U c = true ∧ p c = i
noncomputable def uD (U : Nat → Bool) (p : Nat → Nat) (u : Nat → Int) (b : Int) (j : Nat) : Nat → Int := fun i => @ite _ (Hit U p j i) (Classical.propDecidable _) (u i + b) (u i)
def vD (U : Nat → Bool) (v : Nat → Int) (b : Int) (j : Nat) : Nat → Int := fun c => if c < j ∧ U c = true then v c - b else v c
def lD (U : Nat → Bool) (l : Nat → Int) (b : Int) (j : Nat) : Nat → Int := fun c => if c < j ∧ U c = false then l c - b else l c
section
variable {U : Nat → Bool} {p : Nat → Nat} {u v l : Nat → Int} {b : Int} {j i : Nat}
theorem uD_hit (h : Hit U p j i) : uD U p u b j i = u i + b := if_pos h
theorem uD_no (h : ¬ Hit U p j i) : uD U p u b j i = u i := if_neg h
theorem uD_zero : uD U p u b 0 = u := by funext i; exact uD_no fun ⟨c, h, _⟩ => by omega
theorem vD_zero : vD U v b 0 = v := by funext c; unfold vD; rw [if_neg (by omega)]
theorem lD_zero : lD U l b 0 = l := by funext c; unfold lD; rw [if_neg (by omega)]
theorem uD_step (hj : U j = true) (hn : ¬ Hit U p j (p j)) : up (uD U p u b j) (p j) (uD U p u b j (p j) + b) = uD U p u b (j + 1) := by
  funext i
  by_cases e : i = p j
  · subst e; rw [up_self, uD_no hn, uD_hit ⟨j, by omega, hj, rfl⟩]
  · rw [up_ne e]
    by_cases q : Hit U p j i
    · obtain ⟨c, h1, h2, h3⟩ := q
      rw [uD_hit ⟨c, h1, h2, h3⟩, uD_hit ⟨c, by omega, h2, h3⟩]
    · rw [uD_no q, uD_no]
      rintro ⟨c, h1, h2, h3⟩
      by_cases x : c = j
      · subst x; exact e h3.symm
      · exact q ⟨c, by omega, h2, h3⟩
theorem uD_skip (hj : U j = false) : uD U p u b (j + 1) = uD U p u b j := by
  funext i
  by_cases q : Hit U p j i
  · obtain ⟨c, h1, h2, h3⟩ := q
    rw [uD_hit ⟨c, h1, h2, h3⟩, uD_hit ⟨c, by omega, h2, h3⟩]
  · rw [uD_no q, uD_no]
    rintro ⟨c, h1, h2, h3⟩
    by_cases x : c = j
    · subst x; rw [hj] at h2; cases h2
    · exact q ⟨c, by omega, h2, h3⟩
theorem vD_step (hj : U j = true) : up (vD U v b j) j (vD U v b j j - b) = vD U v b (j + 1) := by
  funext c
  by_cases e : c = j
  · subst e; rw [up_self]; unfold vD; rw [if_neg (by omega), if_pos ⟨by omega, hj⟩]
  · rw [up_ne e]; unfold vD
    by_cases q : c < j ∧ U c = true
    · rw [if_pos q, if_pos ⟨by omega, q.2⟩]
    · rw [if_neg q, if_neg fun h => q ⟨by omega, h.2⟩]
theorem vD_skip (hj : U j = false) : vD U v b (j + 1) = vD U v b j := by
  funext c; unfold vD
  by_cases q : c < j ∧ U c = true
  · rw [if_pos q, if_pos ⟨by omega, q.2⟩]
  · rw [if_neg q, if_neg]
    rintro ⟨h, h2⟩
    by_cases x : c = j
    · subst x; rw [hj] at h2; cases h2
    · exact q ⟨by omega, h2⟩
theorem lD_step (hj : U j = false) : up (lD U l b j) j (lD U l b j j - b) = lD U l b (j + 1) := by
  funext c
  by_cases e : c = j
  · subst e; rw [up_self]; unfold lD; rw [if_neg (by omega), if_pos ⟨by omega, hj⟩]
  · rw [up_ne e]; unfold lD
    by_cases q : c < j ∧ U c = false
    · rw [if_pos q, if_pos ⟨by omega, q.2⟩]
    · rw [if_neg q, if_neg fun h => q ⟨by omega, h.2⟩]
theorem lD_skip (hj : U j = true) : lD U l b (j + 1) = lD U l b j := by
  funext c; unfold lD
  by_cases q : c < j ∧ U c = false
  · rw [if_pos q, if_pos ⟨by omega, q.2⟩]
  · rw [if_neg q, if_neg]
    rintro ⟨h, h2⟩
    by_cases x : c = j
    · subst x; rw [hj] at h2; cases h2
    · exact q ⟨by omega, h2⟩
end
section
variable {n r : Nat} {w : Nat → Nat → Int} {B V0 : Int} {u v : Nat → Int} {p way : Nat → Nat} {ls : Nat → Int} {U : Nat → Bool} {a : Nat} {rk : Nat → Nat} {way' : Nat → Nat} {ls' : Nat → Int} {b : Int} {nx j : Nat}
/-- used ones: their rows are there, and each its own -/
theorem HI.used (h : HI n r w B V0 u v p way ls U a rk) (ha : p a ≠ 0) {d : Nat} (hd : mark U a d = true) : d ≤ n ∧ 1 ≤ p d ∧ p d ≤ r := by
  have h1 : d ≤ n ∧ p d ≠ 0 := by
    by_cases e : d = a
    · subst e; exact ⟨h.an, ha⟩
    · rw [mark_ne e] at hd; exact h.Un d hd
  refine ⟨h1.1, by omega, ?_⟩
  by_cases e : d = 0
  · subst e; rw [h.p0]; exact Nat.le_refl _
  · have := h.lt d (by omega) h1.1; omega
theorem HI.once (h : HI n r w B V0 u v p way ls U a rk) (ha : p a ≠ 0) {c d : Nat} (hc : c ≤ n) (hpc : p c ≠ 0) (hd : mark U a d = true) (e : p d = p c) : d = c := by
  obtain ⟨d1, d2, d3⟩ := h.used ha hd
  by_cases x : d = 0
  · subst x
    rw [h.p0] at e
    by_cases y : c = 0
    · exact y.symm
    · have := h.lt c (by omega) hc; omega
  · by_cases y : c = 0
    · subst y
      rw [h.p0] at e
      have := h.lt d (by omega) d1; omega
    · exact h.inj d c (by omega) d1 (by omega) hc e (by omega)
theorem HI.hit (h : HI n r w B V0 u v p way ls U a rk) (ha : p a ≠ 0) {d : Nat} (hd : mark U a d = true) : Hit (mark U a) p (n + 1) (p d) := ⟨d, by have := (h.used ha hd).1; omega, hd, rfl⟩
theorem HI.fresh (h : HI n r w B V0 u v p way ls U a rk) (ha : p a ≠ 0) (hj : mark U a j = true) : ¬ Hit (mark U a) p j (p j) := by
  rintro ⟨c, h1, h2, h3⟩
  have := h.used ha hj
  have := h.once ha this.1 (by omega) h2 h3
  omega
theorem HI.zero (h : HI n r w B V0 u v p way ls U a rk) : mark U a 0 = true := by
  rcases h.st with s | ⟨s, _⟩
  · exact mark_of s
  · subst s; exact mark_self _ _
/-- where a column but 0 is used, it is not the first look -/
theorem HI.later (h : HI n r w B V0 u v p way ls U a rk) {c : Nat} (hc : 1 ≤ c) (hU : mark U a c = true) : U 0 = true := by
  rcases h.st with s | ⟨s, s2⟩
  · exact s
  · rw [mark_ne (by omega), s2 c] at hU; cases hU
theorem HI.pos (h : HI n r w B V0 u v p way ls U a rk) (ha : p a ≠ 0) (s : Scan n w u v p way ls (mark U a) (n + 1) way' ls' b nx) (h0 : U 0 = true) : 0 ≤ b := by
  obtain ⟨x1, x2, x3, x4⟩ := h.found ha s
  obtain ⟨_, s2, s3, _⟩ := s.seen nx x1 x2 (by omega) x3
  obtain ⟨_, q2, q3⟩ := h.used ha s2
  have := h.feas (p (way' nx)) nx q2 (by
    by_cases e : p (way' nx) < r
    · exact .inl e
    · exact .inr ⟨by omega, h0⟩) x1 x2
  omega
theorem HI.low (h : HI n r w B V0 u v p way ls U a rk) (hw : ∀ i c, 0 ≤ w i c ∧ w i c ≤ B) (ha : p a ≠ 0) (s : Scan n w u v p way ls (mark U a) (n + 1) way' ls' b nx) (h0 : U 0 = false) : - B ≤ b := by
  obtain ⟨x1, x2, x3, x4⟩ := h.found ha s
  obtain ⟨_, s2, s3, _⟩ := s.seen nx x1 x2 (by omega) x3
  have e : way' nx = 0 := by
    refine Classical.byContradiction fun e => ?_
    have := h.later (c := way' nx) (by omega) s2
    rw [h0] at this; cases this
  rw [e, h.p0] at s3
  have := h.ur h0
  have := (h.vle nx x1 x2).2
  have := (hw (r - 1) (nx - 1)).2
  omega
theorem HI.next (h : HI n r w B V0 u v p way ls U a rk) (hw : ∀ i c, 0 ≤ w i c ∧ w i c ≤ B) (ha : p a ≠ 0) (s : Scan n w u v p way ls (mark U a) (n + 1) way' ls' b nx) :
    HI n r w B V0 (uD (mark U a) p u b (n + 1)) (vD (mark U a) v b (n + 1)) p way' (lD (mark U a) ls' b (n + 1)) (mark U a) nx (upn rk a (rk (way a) + 1)) := by
  obtain ⟨x1, x2, x3, x4⟩ := h.found ha s
  have U0 := h.zero
  have vU : ∀ c, c ≤ n → mark U a c = true → vD (mark U a) v b (n + 1) c = v c - b := fun c hc hU => if_pos ⟨by omega, hU⟩
  have vN : ∀ c, mark U a c = false → vD (mark U a) v b (n + 1) c = v c := fun c hU => if_neg fun x => by rw [hU] at x; cases x.2
  have lN : ∀ c, c ≤ n → mark U a c = false → lD (mark U a) ls' b (n + 1) c = ls' c - b := fun c hc hU => if_pos ⟨by omega, hU⟩
  have uU : ∀ d, mark U a d = true → uD (mark U a) p u b (n + 1) (p d) = u (p d) + b := fun d hd => uD_hit (h.hit ha hd)
  have uC : ∀ c, 1 ≤ c → c ≤ n → p c ≠ 0 → mark U a c = false → uD (mark U a) p u b (n + 1) (p c) = u (p c) := fun c h1 h2 h3 h4 => uD_no fun ⟨d, _, hd, e⟩ => by
    have := h.once ha h2 h3 hd e
    subst this; rw [h4] at hd; cases hd
  have uR : uD (mark U a) p u b (n + 1) r = u r + b := by have := uU 0 U0; rw [h.p0] at this; exact this
  have seen := fun c h1 h2 hU => s.seen c h1 h2 (by omega) hU
  have wyS : ∀ c, mark U a c = true → way' c = way c := fun c hc => (s.same c (.inr hc)).2
  have nr : ∀ i, ¬ Hit (mark U a) p (n + 1) i → i ≠ r := fun i hi e => hi (by subst e; rw [← h.p0]; exact h.hit ha U0)
  have feas : ∀ i c, 1 ≤ i → i ≤ r → 1 ≤ c → c ≤ n → uD (mark U a) p u b (n + 1) i + vD (mark U a) v b (n + 1) c ≤ - w (i - 1) (c - 1) := by
    intro i c h1 h2 h3 h4
    by_cases q : Hit (mark U a) p (n + 1) i
    · obtain ⟨d, _, hd, rfl⟩ := id q
      rw [uD_hit q]
      by_cases c1 : mark U a c = true
      · rw [vU c h4 c1]
        have := h.feas (p d) c h1 (by
          by_cases e : p d < r
          · exact .inl e
          · exact .inr ⟨by omega, h.later h3 c1⟩) h3 h4
        omega
      · rw [vN c (ff_of c1)]
        obtain ⟨g1, _, _, g4⟩ := seen c h3 h4 (ff_of c1)
        have := g1 d hd
        omega
    · rw [uD_no q]
      have hi := nr i q
      have := h.feas i c h1 (.inl (by omega)) h3 h4
      by_cases c1 : mark U a c = true
      · rw [vU c h4 c1]
        have := h.pos ha s (h.later h3 c1)
        omega
      · rw [vN c (ff_of c1)]; exact this
  have tight : ∀ c, 1 ≤ c → c ≤ n → p c ≠ 0 → uD (mark U a) p u b (n + 1) (p c) + vD (mark U a) v b (n + 1) c = - w (p c - 1) (c - 1) := by
    intro c h1 h2 h3
    have := h.tight c h1 h2 h3
    by_cases c1 : mark U a c = true
    · rw [vU c h2 c1, uU c c1]; omega
    · rw [vN c (ff_of c1), uC c h1 h2 h3 (ff_of c1)]; exact this
  have free : ∀ c, 1 ≤ c → c ≤ n → p c = 0 → vD (mark U a) v b (n + 1) c = 0 := by
    intro c h1 h2 h3
    have c1 : mark U a c = false := by
      by_cases c1 : mark U a c = true
      · have := h.used ha c1; omega
      · exact ff_of c1
    rw [vN c c1]; exact h.free c h1 h2 h3
  obtain ⟨c0, f1, f2, f3⟩ := free_col h.rn h.lt h.inj
  have uup : ∀ i, 1 ≤ i → i ≤ r → uD (mark U a) p u b (n + 1) i ≤ 0 := fun i h1 h2 => by
    have := feas i c0 h1 h2 f1 f2
    rw [free c0 f1 f2 f3] at this
    have := (hw (i - 1) (c0 - 1)).1
    omega
  refine { rn := h.rn, p0 := h.p0, lt := h.lt, inj := h.inj, cov := h.cov, an := x2, aU := x3, Un := ?_, st := .inl U0, tree := ?_, atree := ?_, feas := ?_, tight := tight, free := free, ls1 := ?_, ls0 := ?_, vle := ?_, ule := ?_, ur := ?_, u0 := ?_, v0 := ?_ }
  · intro c hc; have := h.used ha hc; exact ⟨this.1, by omega⟩
  · intro c hc c0
    have hn := (h.used ha hc).1
    rw [wyS c hc]
    by_cases e : c = a
    · subst e
      obtain ⟨t1, t2⟩ := h.atree c0
      have ne : way c ≠ c := fun x => by rw [x, h.aU] at t1; cases t1
      refine ⟨mark_of t1, by rw [upn_ne ne, upn_self]; omega, ?_⟩
      rw [uU _ (mark_of t1), vU c hn hc]; omega
    · have hc' := hc
      rw [mark_ne e] at hc'
      obtain ⟨t1, t2, t3⟩ := h.tree c hc' c0
      have ne : way c ≠ a := fun x => by rw [x, h.aU] at t1; cases t1
      refine ⟨mark_of t1, by rw [upn_ne ne, upn_ne e]; exact t2, ?_⟩
      rw [uU _ (mark_of t1), vU c hn hc]; omega
  · intro _
    obtain ⟨_, s2, s3, _⟩ := seen nx x1 x2 x3
    refine ⟨s2, ?_⟩
    rw [uU _ s2, vN nx x3]; omega
  · intro i c h1 h2
    exact feas i c h1 (by rcases h2 with h2 | ⟨h2, _⟩ <;> omega)
  · intro _ c h1 h2 hU
    obtain ⟨s1, s2, s3, _⟩ := seen c h1 h2 hU
    rw [lN c h2 hU, vN c hU]
    refine ⟨fun d hd => ?_, s2, ?_⟩
    · have := s1 d hd
      rw [uU d hd]; omega
    · rw [uU _ s2]; omega
  · intro x; rw [U0] at x; cases x
  · intro c h1 h2
    have hv := h.vle c h1 h2
    by_cases c1 : mark U a c = true
    · have hp := h.used ha c1
      have t := tight c h1 h2 (by omega)
      have := uup (p c) hp.2.1 hp.2.2
      have := (hw (p c - 1) (c - 1)).2
      have := h.pos ha s (h.later h1 c1)
      have := vU c h2 c1
      omega
    · rw [vN c (ff_of c1)]; exact hv
  · intro i h1 h2
    have hi : i ≤ r := by rcases h2 with h2 | ⟨h2, _⟩ <;> omega
    refine ⟨?_, uup i h1 hi⟩
    by_cases q : Hit (mark U a) p (n + 1) i
    · rw [uD_hit q]
      by_cases z : U 0 = true
      · have := h.pos ha s z
        have := (h.ule i h1 (by
          by_cases e : i < r
          · exact .inl e
          · exact .inr ⟨by omega, z⟩)).1
        omega
      · have z := ff_of z
        have := h.low hw ha s z
        obtain ⟨d, _, hd, e⟩ := q
        have d0 : d = 0 := by
          refine Classical.byContradiction fun e => ?_
          have := h.later (c := d) (by omega) hd
          rw [z] at this; cases this
        subst d0
        rw [h.p0] at e; subst e
        have := h.ur z
        omega
    · rw [uD_no q]
      have := nr i q
      exact (h.ule i h1 (.inl (by omega))).1
  · intro x; rw [U0] at x; cases x
  · intro i hi
    rw [uD_no]
    · exact h.u0 i hi
    · rintro ⟨d, _, hd, e⟩
      have := h.used ha hd
      omega
  · have := h.v0
    rw [uR, vU 0 (Nat.zero_le _) U0]; omega
end
end Go.Proofs.Ytikjelkehcnjmaa
