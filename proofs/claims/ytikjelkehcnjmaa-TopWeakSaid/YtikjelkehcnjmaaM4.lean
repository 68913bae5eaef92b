/- Top: where rows can and columns can, both can at one time; row by row the least column with which the rest can. -/
import Derived.Test.YtikjelkehcnjmaaM3
namespace Go.Proofs.Ytikjelkehcnjmaa
set_option linter.unusedVariables false
/-- rows that keep their own by A -/
inductive MS (X Y : Nat → Prop) (A B : Nat → Nat) : Nat → Prop
  | base {r : Nat} : X r → (∀ c, Y c → B c ≠ r) → MS X Y A B r
  | step {r : Nat} : MS X Y A B r → X r → Y (A r) → MS X Y A B (B (A r))
theorem both {E : Nat → Nat → Prop} {X Y : Nat → Prop} {A B : Nat → Nat} (hA : ∀ r, X r → E r (A r)) (iA : ∀ r r', X r → X r' → A r = A r' → r = r') (hB : ∀ c, Y c → E (B c) c) (iB : ∀ c c', Y c → Y c' → B c = B c' → c = c') :
    ∃ f : Nat → Option Nat, (∀ r c, f r = some c → E r c) ∧ (∀ r r' c, f r = some c → f r' = some c → r = r') ∧ (∀ r, X r → f r ≠ none) ∧ ∀ c, Y c → ∃ r, f r = some c := by
  let P : Nat → Prop := fun r => MS X Y A B r ∧ X r
  let Q : Nat → Nat → Prop := fun r c => Y c ∧ B c = r ∧ ∀ r', P r' → A r' ≠ c
  have hPQ : ∀ r c, P r → Q r c → False := by
    rintro r c ⟨hS, hX⟩ ⟨hY, hB', hn⟩
    cases hS with
    | base _ h => exact h c hY hB'
    | @step r' h1 h2 h3 => exact hn r' ⟨h1, h2⟩ (iB _ _ h3 hY hB'.symm)
  have hQQ : ∀ r c c', Q r c → Q r c' → c = c' := fun r c c' h h' => iB c c' h.1 h'.1 (h.2.1.trans h'.2.1.symm)
  refine ⟨fun r => @ite _ (P r) (Classical.propDecidable _) (some (A r)) (@ite _ (∃ c, Q r c) (Classical.propDecidable _) (some (Classical.epsilon (Q r))) none), ?_, ?_, ?_, ?_⟩
  · intro r c e
    by_cases p : P r
    · simp only [if_pos p] at e; injection e with e; subst e; exact hA r p.2
    · simp only [if_neg p] at e
      by_cases q : ∃ c, Q r c
      · simp only [if_pos q] at e; injection e with e; subst e
        have := Classical.epsilon_spec q
        have h := hB _ this.1
        rw [this.2.1] at h; exact h
      · simp only [if_neg q] at e; cases e
  · intro r r' c e e'
    by_cases p : P r <;> by_cases p' : P r'
    · simp only [if_pos p] at e; simp only [if_pos p'] at e'
      injection e with e; injection e' with e'
      exact iA r r' p.2 p'.2 (e.trans e'.symm)
    · simp only [if_pos p] at e; simp only [if_neg p'] at e'
      by_cases q : ∃ c, Q r' c
      · simp only [if_pos q] at e'; injection e with e; injection e' with e'
        have := Classical.epsilon_spec q
        exact absurd (e.trans e'.symm) (this.2.2 r p)
      · simp only [if_neg q] at e'; cases e'
    · simp only [if_neg p] at e; simp only [if_pos p'] at e'
      by_cases q : ∃ c, Q r c
      · simp only [if_pos q] at e; injection e with e; injection e' with e'
        have := Classical.epsilon_spec q
        exact absurd (e'.trans e.symm) (this.2.2 r' p')
      · simp only [if_neg q] at e; cases e
    · simp only [if_neg p] at e; simp only [if_neg p'] at e'
      by_cases q : ∃ c, Q r c <;> by_cases q' : ∃ c, Q r' c
      · simp only [if_pos q] at e; simp only [if_pos q'] at e'
        injection e with e; injection e' with e'
        have h := (Classical.epsilon_spec q).2.1
        have h' := (Classical.epsilon_spec q').2.1
        rw [e] at h; rw [e'] at h'; exact h.symm.trans h'
      · simp only [if_neg q'] at e'; cases e'
      · simp only [if_neg q] at e; cases e
      · simp only [if_neg q] at e; cases e
  · intro r hX
    by_cases p : P r
    · simp only [if_pos p]; simp
    · have : ∃ c, Y c ∧ B c = r := by
        refine Classical.byContradiction fun h => p ⟨.base hX fun c hc e => h ⟨c, hc, e⟩, hX⟩
      obtain ⟨c, hc, e⟩ := this
      have q : ∃ c, Q r c := ⟨c, hc, e, fun r' hp ea => p ⟨by have := MS.step hp.1 hp.2 (by rw [ea]; exact hc); rw [ea, e] at this; exact this, hX⟩⟩
      simp only [if_neg p, if_pos q]; simp
  · intro c hc
    by_cases h : ∃ r, P r ∧ A r = c
    · obtain ⟨r, p, e⟩ := h
      exact ⟨r, by simp only [if_pos p, e]⟩
    · have q : Q (B c) c := ⟨hc, rfl, fun r' hp e => h ⟨r', hp, e⟩⟩
      have np : ¬ P (B c) := fun p => hPQ _ _ p q
      refine ⟨B c, ?_⟩
      have qe : ∃ d, Q (B c) d := ⟨c, q⟩
      simp only [if_neg np, if_pos qe]
      rw [hQQ _ _ _ (Classical.epsilon_spec qe) q]
section
variable {m k : Nat} {w : Nat → Nat → Int} {y z : Nat → Int} {d : Nat} {t : Nat → Bool}
/-- may they be each other's, where rows from d on and columns that are not taken are left? -/
def Tit (w : Nat → Nat → Int) (y z : Nat → Int) (d : Nat) (t : Nat → Bool) (r c : Nat) : Prop := d ≤ r ∧ t c = false ∧ 0 < w r c ∧ w r c = y r + z c
/-- what is left can be worth as much -/
def Can (m k : Nat) (w : Nat → Nat → Int) (y z : Nat → Int) (d : Nat) (t : Nat → Bool) : Prop :=
  ∃ f : Nat → Option Nat, (∀ r c, f r = some c → r < m ∧ c < k ∧ Tit w y z d t r c) ∧ (∀ r r' c, f r = some c → f r' = some c → r = r') ∧ (∀ r, d ≤ r → r < m → 0 < y r → f r ≠ none) ∧ ∀ c, c < k → t c = false → 0 < z c → ∃ r, f r = some c
theorem can_iff : Can m k w y z d t ↔ Covs (Tit w y z d t) k (fun r => d ≤ r ∧ r < m ∧ 0 < y r) ∧ Covs (fun c r => Tit w y z d t r c) m (fun c => c < k ∧ t c = false ∧ 0 < z c) := by
  constructor
  · rintro ⟨f, h1, h2, h3, h4⟩
    refine ⟨⟨fun r => (f r).getD 0, fun r hr => ?_, fun r r' hr hr' e => ?_⟩, ⟨fun c => Classical.epsilon fun r => f r = some c, fun c hc => ?_, fun c c' hc hc' e => ?_⟩⟩
    · cases e : f r with
      | none => exact absurd e (h3 r hr.1 hr.2.1 hr.2.2)
      | some c => simp only [e, Option.getD_some]; exact (h1 r c e).2
    · cases e1 : f r with
      | none => exact absurd e1 (h3 r hr.1 hr.2.1 hr.2.2)
      | some c =>
        cases e2 : f r' with
        | none => exact absurd e2 (h3 r' hr'.1 hr'.2.1 hr'.2.2)
        | some c' =>
          simp only [e1, e2, Option.getD_some] at e
          subst e; exact h2 r r' c e1 e2
    · have := Classical.epsilon_spec (h4 c hc.1 hc.2.1 hc.2.2)
      have := h1 _ c this
      exact ⟨this.1, this.2.2⟩
    · have p := Classical.epsilon_spec (h4 c hc.1 hc.2.1 hc.2.2)
      have q := Classical.epsilon_spec (h4 c' hc'.1 hc'.2.1 hc'.2.2)
      simp only at e
      rw [e, q] at p; injection p with p; exact p.symm
  · rintro ⟨⟨A, a1, a2⟩, ⟨B, b1, b2⟩⟩
    obtain ⟨f, f1, f2, f3, f4⟩ := both (E := fun r c => r < m ∧ c < k ∧ Tit w y z d t r c) (X := fun r => d ≤ r ∧ r < m ∧ 0 < y r) (Y := fun c => c < k ∧ t c = false ∧ 0 < z c) (A := A) (B := B)
      (fun r hr => ⟨hr.2.1, (a1 r hr).1, (a1 r hr).2⟩) a2 (fun c hc => ⟨(b1 c hc).1, hc.1, (b1 c hc).2⟩) b2
    exact ⟨f, f1, f2, fun r h1 h2 h3 => f3 r ⟨h1, h2, h3⟩, fun c h1 h2 h3 => f4 c ⟨h1, h2, h3⟩⟩
theorem can_first {f : Nat → Option Nat} (hM : Mat m k w f) (hC : Comp m k w f y z) : Can m k w y z 0 (fun _ => false) := by
  refine ⟨fun r => if r < m then f r else none, fun r c e => ?_, fun r r' c e e' => ?_, fun r _ hr hy e => ?_, fun c hc _ hz => ?_⟩
  · by_cases h : r < m
    · simp only [if_pos h] at e
      have := hM.edge r c h e
      exact ⟨h, this.1, Nat.zero_le _, rfl, this.2, hC.tight r c h e⟩
    · simp only [if_neg h] at e; cases e
  · by_cases h : r < m <;> by_cases h' : r' < m
    · simp only [if_pos h] at e; simp only [if_pos h'] at e'; exact hM.inj r r' c h h' e e'
    · simp only [if_neg h'] at e'; cases e'
    · simp only [if_neg h] at e; cases e
    · simp only [if_neg h] at e; cases e
  · simp only [if_pos hr] at e
    have := hC.row r hr e; omega
  · refine Classical.byContradiction fun h => ?_
    have := hC.col c hc (fun r hr e => h ⟨r, by simp only [if_pos hr]; exact e⟩)
    omega
theorem can_skip {r : Nat} (hr : r < m) (h : Can m k w y z r t) (hn : ∀ c, c < k → Tit w y z r t r c → ¬ Can m k w y z (r + 1) (mark t c)) : Can m k w y z (r + 1) t ∧ y r ≤ 0 := by
  obtain ⟨f, h1, h2, h3, h4⟩ := h
  cases e : f r with
  | none =>
    refine ⟨⟨f, fun a c ea => ?_, h2, fun a ha => h3 a (by omega), h4⟩, ?_⟩
    · obtain ⟨p1, p2, p3, p4⟩ := h1 a c ea
      refine ⟨p1, p2, ?_, p4⟩
      by_cases q : a = r
      · subst q; rw [e] at ea; cases ea
      · omega
    · by_cases q : 0 < y r
      · exact absurd e (h3 r (Nat.le_refl _) hr q)
      · omega
  | some c =>
    obtain ⟨_, hc, hT⟩ := h1 r c e
    refine absurd ⟨fun a => if a = r then none else f a, fun a b ea => ?_, fun a a' b ea ea' => ?_, fun a ha hm hy en => ?_, fun b hb ht hz => ?_⟩ (hn c hc hT)
    · by_cases q : a = r
      · simp only [if_pos q] at ea; cases ea
      · simp only [if_neg q] at ea
        obtain ⟨p1, p2, p3, p4, p5⟩ := h1 a b ea
        exact ⟨p1, p2, by omega, (mark_ne (fun x => by subst x; exact q (h2 a r b ea e))).trans p4, p5⟩
    · by_cases q : a = r <;> by_cases q' : a' = r
      · omega
      · simp only [if_pos q] at ea; cases ea
      · simp only [if_pos q'] at ea'; cases ea'
      · simp only [if_neg q] at ea; simp only [if_neg q'] at ea'; exact h2 a a' b ea ea'
    · simp only [if_neg (show ¬ a = r by omega)] at en
      exact h3 a (by omega) hm hy en
    · obtain ⟨ne, ht⟩ := mark_false ht
      obtain ⟨a, ea⟩ := h4 b hb ht hz
      exact ⟨a, by
        by_cases q : a = r
        · subst q; rw [e] at ea; injection ea with ea; exact absurd ea.symm ne
        · simp only [if_neg q]; exact ea⟩
/-- rows up to d have got what they shall have -/
structure Done (m k : Nat) (w : Nat → Nat → Int) (y z : Nat → Int) (d : Nat) (t : Nat → Bool) (f : Nat → Option Nat) : Prop where
  edge : ∀ r c, r < d → f r = some c → c < k ∧ 0 < w r c ∧ w r c = y r + z c ∧ t c = true
  tk : ∀ c, t c = true → ∃ r, r < d ∧ f r = some c
  inj : ∀ r r' c, r < d → r' < d → f r = some c → f r' = some c → r = r'
  row : ∀ r, r < d → f r = none → y r ≤ 0
  can : Can m k w y z d t
theorem done_first {f g : Nat → Option Nat} (hM : Mat m k w f) (hC : Comp m k w f y z) : Done m k w y z 0 (fun _ => false) g :=
  ⟨fun r c h => by omega, fun c h => (by cases h), fun r r' c h => by omega, fun r h => by omega, can_first hM hC⟩
theorem Done.take {f : Nat → Option Nat} (h : Done m k w y z d t f) {c : Nat} (hc : c < k) (hT : Tit w y z d t d c) (hcan : Can m k w y z (d + 1) (mark t c)) : Done m k w y z (d + 1) (mark t c) (give f d c) := by
  refine ⟨fun r b hr e => ?_, fun b hb => ?_, fun r r' b hr hr' e e' => ?_, fun r hr e => ?_, hcan⟩
  · by_cases q : r = d
    · subst q; rw [give_self] at e; injection e with e; subst e; exact ⟨hc, hT.2.2.1, hT.2.2.2, mark_self _ _⟩
    · rw [give_ne q] at e
      obtain ⟨a1, a2, a3, a4⟩ := h.edge r b (by omega) e
      exact ⟨a1, a2, a3, mark_of a4⟩
  · by_cases q : b = c
    · subst q; exact ⟨d, by omega, give_self _ _ _⟩
    · rw [mark_ne q] at hb
      obtain ⟨r, hr, e⟩ := h.tk b hb
      exact ⟨r, by omega, (give_ne (by omega)).trans e⟩
  · by_cases q : r = d <;> by_cases q' : r' = d
    · omega
    · subst q; rw [give_self] at e; rw [give_ne q'] at e'; injection e with e; subst e
      have := (h.edge r' c (by omega) e').2.2.2; rw [hT.2.1] at this; cases this
    · subst q'; rw [give_self] at e'; rw [give_ne q] at e; injection e' with e'; subst e'
      have := (h.edge r c (by omega) e).2.2.2; rw [hT.2.1] at this; cases this
    · rw [give_ne q] at e; rw [give_ne q'] at e'; exact h.inj r r' b (by omega) (by omega) e e'
  · by_cases q : r = d
    · subst q; rw [give_self] at e; cases e
    · rw [give_ne q] at e; exact h.row r (by omega) e
def lone (f : Nat → Option Nat) (d : Nat) : Nat → Option Nat := fun r => if r = d then none else f r
theorem lone_self (f : Nat → Option Nat) (d : Nat) : lone f d d = none := if_pos rfl
theorem lone_ne {f : Nat → Option Nat} {d r : Nat} (h : r ≠ d) : lone f d r = f r := if_neg h
theorem Done.skip {f : Nat → Option Nat} (h : Done m k w y z d t f) (hd : d < m) (hn : ∀ c, c < k → Tit w y z d t d c → ¬ Can m k w y z (d + 1) (mark t c)) : Done m k w y z (d + 1) t (lone f d) := by
  obtain ⟨hc, hy⟩ := can_skip hd h.can hn
  refine ⟨fun r b hr e => ?_, fun b hb => ?_, fun r r' b hr hr' e e' => ?_, fun r hr e => ?_, hc⟩
  · by_cases q : r = d
    · subst q; rw [lone_self] at e; cases e
    · rw [lone_ne q] at e; exact h.edge r b (by omega) e
  · obtain ⟨r, hr, e⟩ := h.tk b hb
    exact ⟨r, by omega, (lone_ne (by omega)).trans e⟩
  · by_cases q : r = d <;> by_cases q' : r' = d
    · omega
    · subst q; rw [lone_self] at e; cases e
    · subst q'; rw [lone_self] at e'; cases e'
    · rw [lone_ne q] at e; rw [lone_ne q'] at e'; exact h.inj r r' b (by omega) (by omega) e e'
  · by_cases q : r = d
    · subst q; exact hy
    · rw [lone_ne q] at e; exact h.row r (by omega) e
theorem Done.mat {f : Nat → Option Nat} (h : Done m k w y z m t f) : Mat m k w f :=
  ⟨fun r c hr e => ⟨(h.edge r c hr e).1, (h.edge r c hr e).2.1⟩, h.inj⟩
theorem Done.comp {f : Nat → Option Nat} (h : Done m k w y z m t f) (hd : Dual m k w y z) : Comp m k w f y z := by
  refine ⟨fun r c hr e => (h.edge r c hr e).2.2.1, fun r hr e => ?_, fun c hc hn => ?_⟩
  · have := h.row r hr e; have := hd.y0 r hr; omega
  · have h0 := hd.z0 c hc
    by_cases q : 0 < z c
    · by_cases tc : t c = true
      · obtain ⟨r, hr, e⟩ := h.tk c tc
        exact absurd e (hn r hr)
      · obtain ⟨g, h1, _, _, h4⟩ := h.can
        obtain ⟨r, e⟩ := h4 c hc (ff_of tc) q
        have := h1 r c e
        have := this.2.2.1
        omega
    · omega
end
end Go.Proofs.Ytikjelkehcnjmaa
