/- Top: matchings and prices, plain: no matching is worth more than prices that bear the graph; prices that stand with a matching show that it is the best. -/
import Derived.KernelRfl
namespace Go.Proofs.Ytikjelkehcnjmaa
set_option linter.unusedVariables false

/-- the sum of the first n -/
def tot (f : Nat → Int) : Nat → Int
  | 0 => 0
  | n + 1 => tot f n + f n
theorem tot_le {f g : Nat → Int} : ∀ {n : Nat}, (∀ i, i < n → f i ≤ g i) → tot f n ≤ tot g n
  | 0, _ => Int.le_refl _
  | n + 1, h => by
    have a := tot_le (n := n) (f := f) (g := g) (fun i hi => h i (by omega))
    have b := h n (by omega)
    simp only [tot]; omega
theorem tot_eq {f g : Nat → Int} {n : Nat} (h : ∀ i, i < n → f i = g i) : tot f n = tot g n :=
  Int.le_antisymm (tot_le fun i hi => Int.le_of_eq (h i hi)) (tot_le fun i hi => Int.le_of_eq (h i hi).symm)
theorem tot_add (f g : Nat → Int) : ∀ n : Nat, tot (fun i => f i + g i) n = tot f n + tot g n
  | 0 => rfl
  | n + 1 => by have := tot_add f g n; simp only [tot]; omega
theorem tot_nonneg {f : Nat → Int} {n : Nat} (h : ∀ i, i < n → 0 ≤ f i) : 0 ≤ tot f n := by
  have : tot (fun _ => 0) n ≤ tot f n := tot_le h
  have z : ∀ n : Nat, tot (fun _ => 0) n = 0 := fun n => by induction n with
    | zero => rfl
    | succ n ih => simp only [tot, ih]; rfl
  rw [z] at this; exact this
theorem tot_zero (n : Nat) : tot (fun _ => 0) n = 0 := by
  induction n with
  | zero => rfl
  | succ n ih => simp only [tot, ih]; rfl
/-- but for one place -/
def but (f : Nat → Int) (c : Nat) : Nat → Int := fun i => if i = c then 0 else f i
theorem tot_but_out {f : Nat → Int} {c : Nat} : ∀ {n : Nat}, n ≤ c → tot (but f c) n = tot f n
  | 0, _ => rfl
  | n + 1, h => by
    have := tot_but_out (f := f) (c := c) (n := n) (by omega)
    simp only [tot, this, but]; rw [if_neg (by omega)]
theorem tot_but {f : Nat → Int} {c : Nat} : ∀ {n : Nat}, c < n → tot f n = tot (but f c) n + f c
  | 0, h => by omega
  | n + 1, h => by
    by_cases e : c = n
    · subst e
      simp only [tot, tot_but_out (Nat.le_refl c)]
      unfold but; rw [if_pos rfl]; omega
    · have := tot_but (f := f) (c := c) (n := n) (by omega)
      simp only [tot]; rw [this]
      have : but f c n = f n := by unfold but; rw [if_neg (by omega)]
      rw [this]; omega

/-- the price of what a row has -/
def pay (z : Nat → Int) : Option Nat → Int
  | none => 0
  | some c => z c
theorem pay_but {z : Nat → Int} {c : Nat} {o : Option Nat} (h : o ≠ some c) : pay (but z c) o = pay z o := by
  cases o with
  | none => rfl
  | some d => show but z c d = z d; unfold but; rw [if_neg (fun e => h (by rw [e]))]
/-- no column twice -/
def Inj (m : Nat) (f : Nat → Option Nat) : Prop := ∀ r r' c, r < m → r' < m → f r = some c → f r' = some c → r = r'
theorem pay_le {k : Nat} {f : Nat → Option Nat} : ∀ {m : Nat} {z : Nat → Int}, (∀ c, c < k → 0 ≤ z c) → Inj m f → (∀ r c, r < m → f r = some c → c < k) → tot (fun r => pay z (f r)) m ≤ tot z k
  | 0, z, hz, _, _ => tot_nonneg hz
  | m + 1, z, hz, hi, hk => by
    have hi' : Inj m f := fun r r' c h h' => hi r r' c (by omega) (by omega)
    show tot (fun r => pay z (f r)) m + pay z (f m) ≤ _
    cases e : f m with
    | none =>
      have := pay_le (m := m) hz hi' (fun r c h => hk r c (by omega))
      have p1 : pay z none = 0 := rfl; have p2 : ∀ c, pay z (some c) = z c := fun _ => rfl; first | (rw [p1]; omega) | (rw [p2]; omega)
    | some c =>
      have hc := hk m c (by omega) e
      have h0 : ∀ d, d < k → 0 ≤ but z c d := fun d hd => by unfold but; by_cases x : d = c <;> simp [x, hz d hd]
      have a := pay_le (m := m) h0 hi' (fun r c h => hk r c (by omega))
      have b : tot (fun r => pay (but z c) (f r)) m = tot (fun r => pay z (f r)) m := tot_eq fun r hr => pay_but fun x => by have := hi r m c (by omega) (by omega) x e; omega
      rw [b] at a
      have := tot_but (f := z) hc
      have p1 : pay z none = 0 := rfl; have p2 : ∀ c, pay z (some c) = z c := fun _ => rfl; first | (rw [p1]; omega) | (rw [p2]; omega)
theorem pay_eq {k : Nat} {f : Nat → Option Nat} : ∀ {m : Nat} {z : Nat → Int}, Inj m f → (∀ r c, r < m → f r = some c → c < k) → (∀ c, c < k → (∀ r, r < m → f r ≠ some c) → z c = 0) → tot (fun r => pay z (f r)) m = tot z k
  | 0, z, _, _, h0 => by
    have : tot z k = tot (fun _ => 0) k := tot_eq fun c hc => h0 c hc (fun r hr => by omega)
    rw [this, tot_zero]; rfl
  | m + 1, z, hi, hk, h0 => by
    have hi' : Inj m f := fun r r' c h h' => hi r r' c (by omega) (by omega)
    show tot (fun r => pay z (f r)) m + pay z (f m) = _
    cases e : f m with
    | none =>
      have := pay_eq (m := m) (z := z) hi' (fun r c h => hk r c (by omega)) (fun c hc hr => h0 c hc (fun r hr' => by
        by_cases x : r = m
        · subst x; rw [e]; simp
        · exact hr r (by omega)))
      have p1 : pay z none = 0 := rfl; have p2 : ∀ c, pay z (some c) = z c := fun _ => rfl; first | (rw [p1]; omega) | (rw [p2]; omega)
    | some c =>
      have hc := hk m c (by omega) e
      have a := pay_eq (m := m) (z := but z c) hi' (fun r c h => hk r c (by omega)) (fun d hd hr => by
        unfold but
        by_cases x : d = c
        · rw [if_pos x]
        · rw [if_neg x]
          exact h0 d hd (fun r hr' => by
            by_cases y : r = m
            · subst y; rw [e]; exact fun h => x (by injection h with h; exact h.symm)
            · exact hr r (by omega)))
      have b : tot (fun r => pay (but z c) (f r)) m = tot (fun r => pay z (f r)) m := tot_eq fun r hr => pay_but fun x => by have := hi r m c (by omega) (by omega) x e; omega
      rw [b] at a
      have := tot_but (f := z) hc
      have p1 : pay z none = 0 := rfl; have p2 : ∀ c, pay z (some c) = z c := fun _ => rfl; first | (rw [p1]; omega) | (rw [p2]; omega)

/-- a matching of the edges that are worth something -/
structure Mat (m k : Nat) (w : Nat → Nat → Int) (f : Nat → Option Nat) : Prop where
  edge : ∀ r c, r < m → f r = some c → c < k ∧ 0 < w r c
  inj : Inj m f
/-- what a matching is worth -/
def wor (w : Nat → Nat → Int) (f : Nat → Option Nat) (m : Nat) : Int := tot (fun r => pay (w r) (f r)) m
/-- prices that bear the graph -/
structure Dual (m k : Nat) (w : Nat → Nat → Int) (y z : Nat → Int) : Prop where
  y0 : ∀ r, r < m → 0 ≤ y r
  z0 : ∀ c, c < k → 0 ≤ z c
  le : ∀ r c, r < m → c < k → w r c ≤ y r + z c
/-- prices that stand with a matching -/
structure Comp (m k : Nat) (w : Nat → Nat → Int) (f : Nat → Option Nat) (y z : Nat → Int) : Prop where
  tight : ∀ r c, r < m → f r = some c → w r c = y r + z c
  row : ∀ r, r < m → f r = none → y r = 0
  col : ∀ c, c < k → (∀ r, r < m → f r ≠ some c) → z c = 0
section
variable {m k : Nat} {w : Nat → Nat → Int} {f g : Nat → Option Nat} {y z y' z' : Nat → Int}
theorem Dual.bound (h : Dual m k w y z) (hM : Mat m k w f) : wor w f m ≤ tot y m + tot z k := by
  have a := pay_le (m := m) h.z0 hM.inj (fun r c hr hc => (hM.edge r c hr hc).1)
  have b : wor w f m ≤ tot (fun r => y r + pay z (f r)) m := tot_le fun r hr => by
    cases e : f r with
    | none => have := h.y0 r hr; simp only [pay]; omega
    | some c => exact h.le r c hr (hM.edge r c hr e).1
  rw [tot_add] at b
  omega
theorem Comp.eq (h : Comp m k w f y z) (hM : Mat m k w f) : wor w f m = tot y m + tot z k := by
  have a := pay_eq (m := m) (z := z) hM.inj (fun r c hr hc => (hM.edge r c hr hc).1) h.col
  have b : wor w f m = tot (fun r => y r + pay z (f r)) m := tot_eq fun r hr => by
    cases e : f r with
    | none => have := h.row r hr e; simp only [pay]; omega
    | some c => exact h.tight r c hr e
  rw [tot_add] at b
  omega
theorem tot_eq_of_le {f g : Nat → Int} : ∀ {n : Nat}, (∀ i, i < n → f i ≤ g i) → tot f n = tot g n → ∀ i, i < n → f i = g i
  | 0, _, _, i, hi => by omega
  | n + 1, h, e, i, hi => by
    have a := tot_le (n := n) (f := f) (g := g) (fun i hi => h i (by omega))
    have b := h n (by omega)
    simp only [tot] at e
    by_cases x : i = n
    · subst x; omega
    · exact tot_eq_of_le (n := n) (fun i hi => h i (by omega)) (by omega) i (by omega)
/-- prices that bear the graph and are together what a matching is worth stand with it -/
theorem Dual.comp (h : Dual m k w y z) (hM : Mat m k w f) (e : wor w f m = tot y m + tot z k) : Comp m k w f y z := by
  have a := pay_le (m := m) h.z0 hM.inj (fun r c hr hc => (hM.edge r c hr hc).1)
  have l : ∀ r, r < m → pay (w r) (f r) ≤ y r + pay z (f r) := fun r hr => by
    cases e : f r with
    | none => have := h.y0 r hr; simp only [pay]; omega
    | some c => exact h.le r c hr (hM.edge r c hr e).1
  have b : wor w f m ≤ tot (fun r => y r + pay z (f r)) m := tot_le l
  have b' := tot_add y (fun r => pay z (f r)) m
  have e1 : ∀ r, r < m → pay (w r) (f r) = y r + pay z (f r) := tot_eq_of_le l (by show wor w f m = _; omega)
  have e2 : tot (fun r => pay z (f r)) m = tot z k := by omega
  refine ⟨fun r c hr hc => by have := e1 r hr; rw [hc] at this; exact this, fun r hr hc => by have := e1 r hr; rw [hc] at this; simp only [pay] at this; omega, fun c hc hn => ?_⟩
  have h0 : ∀ d, d < k → 0 ≤ but z c d := fun d hd => by unfold but; by_cases x : d = c <;> simp [x, h.z0 d hd]
  have a' := pay_le (m := m) h0 hM.inj (fun r c hr hc => (hM.edge r c hr hc).1)
  have b2 : tot (fun r => pay (but z c) (f r)) m = tot (fun r => pay z (f r)) m := tot_eq fun r hr => pay_but (hn r hr)
  have := tot_but (f := z) hc
  have := h.z0 c hc
  omega
end
end Go.Proofs.Ytikjelkehcnjmaa
