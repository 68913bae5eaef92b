/- Top: partners of their own, one behind the other; both sides at one time; row by row the least column. -/
import Derived.Test.YtikjelkehcnjmaaM2
namespace Go.Proofs.Ytikjelkehcnjmaa
set_option linter.unusedVariables false
theorem php : ∀ (n : Nat) (g : Nat → Nat), (∀ i, i ≤ n → g i < n) → ∃ i j, i < j ∧ j ≤ n ∧ g i = g j
  | 0, g, h => absurd (h 0 (Nat.le_refl _)) (Nat.not_lt_zero _)
  | n + 1, g, h => by
    by_cases e : ∃ i, i ≤ n ∧ g i = g (n + 1)
    · obtain ⟨i, hi, e⟩ := e
      exact ⟨i, n + 1, by omega, Nat.le_refl _, e⟩
    · have e' : ∀ i, i ≤ n → g i ≠ g (n + 1) := fun i hi x => e ⟨i, hi, x⟩
      have hl := h (n + 1) (Nat.le_refl _)
      obtain ⟨i, j, h1, h2, h3⟩ := php n (fun i => if g i = n then g (n + 1) else g i) (fun i hi => by
        have a := e' i hi
        have b := h i (by omega)
        by_cases x : g i = n
        · simp only [if_pos x]; omega
        · simp only [if_neg x]; omega)
      refine ⟨i, j, h1, by omega, ?_⟩
      have a := e' i (by omega)
      have b := e' j h2
      by_cases x : g i = n <;> by_cases y : g j = n
      · omega
      · simp only [if_pos x, if_neg y] at h3; omega
      · simp only [if_neg x, if_pos y] at h3; omega
      · simp only [if_neg x, if_neg y] at h3; omega
section
variable {E : Nat → Nat → Prop} {n : Nat}
/-- each of L can have a partner of its own -/
def Covs (E : Nat → Nat → Prop) (n : Nat) (L : Nat → Prop) : Prop := ∃ M : Nat → Nat, (∀ x, L x → M x < n ∧ E x (M x)) ∧ ∀ x x', L x → L x' → M x = M x' → x = x'
/-- whose each partner is, while some of L have one -/
structure KI (E : Nat → Nat → Prop) (n : Nat) (o : Nat → Option Nat) (L : Nat → Prop) : Prop where
  edge : ∀ b a, o b = some a → b < n ∧ E a b ∧ L a
  inj : ∀ b b' a, o b = some a → o b' = some a → b = b'
  cov : ∀ a, L a → ∃ b, o b = some a
theorem KI.covs {o : Nat → Option Nat} {L : Nat → Prop} (h : KI E n o L) : Covs E n L := by
  refine ⟨fun a => Classical.epsilon fun b => o b = some a, fun a ha => ?_, fun a a' ha ha' e => ?_⟩
  · have := Classical.epsilon_spec (h.cov a ha)
    have := h.edge _ _ this
    exact ⟨this.1, this.2.1⟩
  · have p := Classical.epsilon_spec (h.cov a ha)
    have q := Classical.epsilon_spec (h.cov a' ha')
    simp only at e
    rw [e, q] at p
    injection p with p; exact p.symm
/-- nobody came by those up to j: all that were met belong to somebody whose own are met too -/
structure FellTo (E : Nat → Nat → Prop) (n : Nat) (S : Nat → Bool) (o : Nat → Option Nat) (a j : Nat) (S' : Nat → Bool) : Prop where
  sub : ∀ b, S b = true → S' b = true
  met : ∀ b, b < j → E a b → S' b = true
  cls : ∀ b, S' b = true → S b = false → b < n ∧ ∃ x, o b = some x ∧ ∀ c, c < n → E x c → S' c = true
/-- one more has a partner among those that were not met -/
structure Rose (E : Nat → Nat → Prop) (n : Nat) (S : Nat → Bool) (o : Nat → Option Nat) (a : Nat) (o' : Nat → Option Nat) : Prop where
  same : ∀ b, S b = true → o' b = o b
  edge : ∀ b x, S b = false → o' b = some x → b < n ∧ E x b
  img : ∀ x, (∃ b, S b = false ∧ o' b = some x) ↔ (x = a ∨ ∃ b, S b = false ∧ o b = some x)
  inj : ∀ b b' x, S b = false → S b' = false → o' b = some x → o' b' = some x → b = b'
structure Good (E : Nat → Nat → Prop) (n : Nat) (S : Nat → Bool) (o : Nat → Option Nat) (a : Nat) : Prop where
  edge : ∀ b x, S b = false → o b = some x → b < n ∧ E x b
  inj : ∀ b b' x, S b = false → S b' = false → o b = some x → o b' = some x → b = b'
  no : ∀ b, S b = false → o b ≠ some a
def mark (S : Nat → Bool) (j : Nat) : Nat → Bool := fun b => if b = j then true else S b
def give (o : Nat → Option Nat) (j a : Nat) : Nat → Option Nat := fun b => if b = j then some a else o b
theorem mark_self (S : Nat → Bool) (j : Nat) : mark S j j = true := if_pos rfl
theorem mark_ne {S : Nat → Bool} {j b : Nat} (h : b ≠ j) : mark S j b = S b := if_neg h
theorem mark_of {S : Nat → Bool} {j b : Nat} (h : S b = true) : mark S j b = true := by unfold mark; by_cases e : b = j <;> simp [e, h]
theorem mark_false {S : Nat → Bool} {j b : Nat} (h : mark S j b = false) : b ≠ j ∧ S b = false := by
  unfold mark at h
  by_cases e : b = j
  · rw [if_pos e] at h; cases h
  · rw [if_neg e] at h; exact ⟨e, h⟩
theorem give_self (o : Nat → Option Nat) (j a : Nat) : give o j a j = some a := if_pos rfl
theorem give_ne {o : Nat → Option Nat} {j a b : Nat} (h : b ≠ j) : give o j a b = o b := if_neg h
theorem ff_of {b : Bool} (h : ¬ b = true) : b = false := by cases b <;> simp_all
variable {S S1 S2 : Nat → Bool} {o o2 : Nat → Option Nat} {a j x : Nat}
theorem fell_zero : FellTo E n S o a 0 S := ⟨fun _ h => h, fun b hb => by omega, fun b h h' => by rw [h] at h'; cases h'⟩
theorem FellTo.skip (h : FellTo E n S o a j S1) (hj : S1 j = true ∨ ¬ E a j) : FellTo E n S o a (j + 1) S1 :=
  ⟨h.sub, fun b hb he => by
    by_cases e : b = j
    · subst e; rcases hj with hj | hj
      · exact hj
      · exact absurd he hj
    · exact h.met b (by omega) he, h.cls⟩
theorem FellTo.un (h : FellTo E n S o a j S1) (hj : S1 j = false) : S j = false := by
  by_cases e : S j = true
  · rw [h.sub j e] at hj; cases hj
  · exact ff_of e
theorem FellTo.good (h : FellTo E n S o a j S1) (g : Good E n S o a) (hj : S1 j = false) (ho : o j = some x) : Good E n (mark S1 j) o x := by
  have un : ∀ b, mark S1 j b = false → S b = false ∧ b ≠ j := fun b hb => by
    have := mark_false hb
    refine ⟨?_, this.1⟩
    by_cases e : S b = true
    · have := h.sub b e; simp_all
    · exact ff_of e
  exact ⟨fun b y hb => g.edge b y (un b hb).1, fun b b' y hb hb' => g.inj b b' y (un b hb).1 (un b' hb').1, fun b hb e => (un b hb).2 (g.inj b j x (un b hb).1 (h.un hj) e ho)⟩
theorem FellTo.fell (h : FellTo E n S o a j S1) (hjn : j < n) (hj : S1 j = false) (ho : o j = some x) (r : FellTo E n (mark S1 j) o x n S2) : FellTo E n S o a (j + 1) S2 := by
  refine ⟨fun b hb => r.sub b (mark_of (h.sub b hb)), fun b hb he => ?_, fun b hb hb' => ?_⟩
  · by_cases e : b = j
    · subst e; exact r.sub b (mark_self _ _)
    · exact r.sub b (mark_of (h.met b (by omega) he))
  · by_cases e : mark S1 j b = true
    · by_cases e' : b = j
      · subst e'; exact ⟨hjn, x, ho, r.met⟩
      · rw [mark_ne e'] at e
        obtain ⟨h1, y, h2, h3⟩ := h.cls b e hb'
        exact ⟨h1, y, h2, fun c hc he => r.sub c (mark_of (h3 c hc he))⟩
    · exact r.cls b hb (ff_of e)
theorem FellTo.free (h : FellTo E n S o a j S1) (g : Good E n S o a) (hjn : j < n) (hj : S1 j = false) (he : E a j) (ho : o j = none) : Rose E n S o a (give o j a) := by
  have hs := h.un hj
  refine ⟨fun b hb => give_ne (fun e => by subst e; rw [hb] at hs; cases hs), fun b y hb e => ?_, fun y => ⟨?_, ?_⟩, fun b b' y hb hb' e e' => ?_⟩
  · by_cases x : b = j
    · subst x; rw [give_self] at e; injection e with e; subst e; exact ⟨hjn, he⟩
    · rw [give_ne x] at e; exact g.edge b y hb e
  · rintro ⟨b, hb, e⟩
    by_cases x : b = j
    · subst x; rw [give_self] at e; injection e with e; exact .inl e.symm
    · rw [give_ne x] at e; exact .inr ⟨b, hb, e⟩
  · rintro (rfl | ⟨b, hb, e⟩)
    · exact ⟨j, hs, give_self _ _ _⟩
    · exact ⟨b, hb, (give_ne (fun x => by subst x; rw [ho] at e; cases e)).trans e⟩
  · by_cases x : b = j <;> by_cases x' : b' = j
    · omega
    · subst x; rw [give_self] at e; rw [give_ne x'] at e'; injection e with e; subst e; exact absurd e' (g.no b' hb')
    · subst x'; rw [give_self] at e'; rw [give_ne x] at e; injection e' with e'; subst e'; exact absurd e (g.no b hb)
    · rw [give_ne x] at e; rw [give_ne x'] at e'; exact g.inj b b' y hb hb' e e'
theorem FellTo.rose (h : FellTo E n S o a j S1) (g : Good E n S o a) (hjn : j < n) (hj : S1 j = false) (he : E a j) (ho : o j = some x) (r : Rose E n (mark S1 j) o x o2) : Rose E n S o a (give o2 j a) := by
  have hs := h.un hj
  have hm : ∀ b, S b = true → mark S1 j b = true := fun b hb => mark_of (h.sub b hb)
  refine ⟨fun b hb => ?_, fun b y hb e => ?_, fun y => ⟨?_, ?_⟩, fun b b' y hb hb' e e' => ?_⟩
  · rw [give_ne (fun e => by subst e; rw [hb] at hs; cases hs)]; exact r.same b (hm b hb)
  · by_cases xx : b = j
    · subst xx; rw [give_self] at e; injection e with e; subst e; exact ⟨hjn, he⟩
    · rw [give_ne xx] at e
      by_cases m : mark S1 j b = true
      · rw [r.same b m] at e; exact g.edge b y hb e
      · exact r.edge b y (ff_of m) e
  · rintro ⟨b, hb, e⟩
    by_cases xx : b = j
    · subst xx; rw [give_self] at e; injection e with e; exact .inl e.symm
    · rw [give_ne xx] at e
      by_cases m : mark S1 j b = true
      · rw [r.same b m] at e; exact .inr ⟨b, hb, e⟩
      · rcases (r.img y).1 ⟨b, ff_of m, e⟩ with rfl | ⟨c, hc, e⟩
        · exact .inr ⟨j, hs, ho⟩
        · refine .inr ⟨c, ?_, e⟩
          by_cases q : S c = true
          · rw [hm c q] at hc; cases hc
          · exact ff_of q
  · rintro (rfl | ⟨b, hb, e⟩)
    · exact ⟨j, hs, give_self _ _ _⟩
    · have up : (∃ c, mark S1 j c = false ∧ o2 c = some y) → ∃ c, S c = false ∧ give o2 j a c = some y := by
        rintro ⟨c, hc, ec⟩
        refine ⟨c, ?_, (give_ne (mark_false hc).1).trans ec⟩
        by_cases q : S c = true
        · rw [hm c q] at hc; cases hc
        · exact ff_of q
      by_cases xx : b = j
      · subst xx
        rw [ho] at e; injection e with e; subst e
        exact up ((r.img x).2 (.inl rfl))
      · by_cases m : mark S1 j b = true
        · exact ⟨b, hb, by rw [give_ne xx, r.same b m]; exact e⟩
        · exact up ((r.img y).2 (.inr ⟨b, ff_of m, e⟩))
  · have key : ∀ c, S c = false → c ≠ j → o2 c ≠ some a := fun c hc hcj ec => by
      by_cases m : mark S1 j c = true
      · rw [r.same c m] at ec; exact g.no c hc ec
      · rcases (r.img a).1 ⟨c, ff_of m, ec⟩ with rfl | ⟨d, hd, ed⟩
        · exact g.no j hs ho
        · refine g.no d ?_ ed
          by_cases q : S d = true
          · rw [hm d q] at hd; cases hd
          · exact ff_of q
    have mix : ∀ c d, S c = false → c ≠ j → mark S1 j c = true → mark S1 j d = false → o2 c = some y → o2 d = some y → False := fun c d hc hcj mc md ec ed => by
      rw [r.same c mc] at ec
      rcases (r.img y).1 ⟨d, md, ed⟩ with rfl | ⟨q, hq, eq⟩
      · exact hcj (g.inj c j _ hc hs ec ho)
      · have hq' : S q = false := by
          by_cases q' : S q = true
          · rw [hm q q'] at hq; cases hq
          · exact ff_of q'
        have := g.inj c q _ hc hq' ec eq
        subst this; rw [mc] at hq; cases hq
    by_cases xx : b = j <;> by_cases xx' : b' = j
    · omega
    · subst xx; rw [give_self] at e; rw [give_ne xx'] at e'; injection e with e; subst e; exact absurd e' (key b' hb' xx')
    · subst xx'; rw [give_self] at e'; rw [give_ne xx] at e; injection e' with e'; subst e'; exact absurd e (key b hb xx)
    · rw [give_ne xx] at e; rw [give_ne xx'] at e'
      by_cases m : mark S1 j b = true <;> by_cases m' : mark S1 j b' = true
      · rw [r.same b m] at e; rw [r.same b' m'] at e'; exact g.inj b b' y hb hb' e e'
      · exact (mix b b' hb xx m (ff_of m') e e').elim
      · exact (mix b' b hb' xx' m' (ff_of m) e' e).elim
      · exact r.inj b b' y (ff_of m) (ff_of m') e e'
variable {L : Nat → Prop}
theorem KI.good (h : KI E n o L) (ha : ¬ L a) : Good E n (fun _ => false) o a :=
  ⟨fun b x _ e => ⟨(h.edge b x e).1, (h.edge b x e).2.1⟩, fun b b' x _ _ => h.inj b b' x, fun b _ e => ha (h.edge b a e).2.2⟩
theorem KI.rose (h : KI E n o L) (r : Rose E n (fun _ => false) o a o2) : KI E n o2 (fun x => L x ∨ x = a) := by
  refine ⟨fun b x e => ?_, fun b b' x e e' => r.inj b b' x rfl rfl e e', fun x hx => ?_⟩
  · have := r.edge b x rfl e
    refine ⟨this.1, this.2, ?_⟩
    rcases (r.img x).1 ⟨b, rfl, e⟩ with h1 | ⟨c, _, h1⟩
    · exact .inr h1
    · exact .inl (h.edge c x h1).2.2
  · obtain ⟨b, _, e⟩ := (r.img x).2 (by
      rcases hx with hx | hx
      · obtain ⟨b, e⟩ := h.cov x hx; exact .inr ⟨b, rfl, e⟩
      · exact .inl hx)
    exact ⟨b, e⟩
def hop (M : Nat → Nat) (o : Nat → Option Nat) (a : Nat) : Nat → Nat
  | 0 => M a
  | i + 1 => M ((o (hop M o a i)).getD 0)
theorem KI.fell (h : KI E n o L) (ha : ¬ L a) (r : FellTo E n (fun _ => false) o a n S1) : ¬ Covs E n (fun x => L x ∨ x = a) := by
  rintro ⟨M, h1, h2⟩
  have hs : ∀ i, S1 (hop M o a i) = true ∧ hop M o a i < n := by
    intro i
    induction i with
    | zero => exact ⟨r.met _ (h1 a (.inr rfl)).1 (h1 a (.inr rfl)).2, (h1 a (.inr rfl)).1⟩
    | succ i ih =>
      obtain ⟨hb, x, ex, hx⟩ := r.cls _ ih.1 rfl
      have hL := (h.edge _ _ ex).2.2
      show S1 (M ((o (hop M o a i)).getD 0)) = true ∧ M ((o (hop M o a i)).getD 0) < n
      rw [ex]
      exact ⟨hx _ (h1 x (.inl hL)).1 (h1 x (.inl hL)).2, (h1 x (.inl hL)).1⟩
  have row : ∀ i, ∃ x, o (hop M o a i) = some x ∧ L x := fun i => by
    obtain ⟨hb, x, ex, hx⟩ := r.cls _ (hs i).1 rfl
    exact ⟨x, ex, (h.edge _ _ ex).2.2⟩
  have no : ∀ i d, hop M o a i = hop M o a (i + d + 1) → False := by
    intro i
    induction i with
    | zero =>
      intro d e
      obtain ⟨x, ex, hx⟩ := row (0 + d)
      have : M a = M x := by
        have := e
        show M a = M x
        calc M a = hop M o a 0 := rfl
          _ = M ((o (hop M o a (0 + d))).getD 0) := e
          _ = M x := by rw [ex]; rfl
      have := h2 a x (.inr rfl) (.inl hx) this
      subst this; exact ha hx
    | succ i ih =>
      intro d e
      obtain ⟨x, ex, hx⟩ := row i
      obtain ⟨x', ex', hx'⟩ := row (i + d + 1)
      have e2 : M x = M x' := by
        have e3 : M ((o (hop M o a i)).getD 0) = M ((o (hop M o a (i + d + 1))).getD 0) := by
          have : i + 1 + d + 1 = (i + d + 1) + 1 := by omega
          rw [this] at e; exact e
        rw [ex, ex'] at e3; exact e3
      have := h2 x x' (.inl hx) (.inl hx') e2
      subst this
      exact ih d (h.inj _ _ x ex ex')
  obtain ⟨i, j, h3, h4, h5⟩ := php n (hop M o a) (fun i _ => (hs i).2)
  exact no i (j - i - 1) (by rw [h5]; congr 1; omega)
end
end Go.Proofs.Ytikjelkehcnjmaa
