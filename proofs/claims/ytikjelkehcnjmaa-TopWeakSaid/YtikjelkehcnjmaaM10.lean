/- Top: pairs one behind the other: when they are a matching, what they are worth. -/
import Derived.Test.YtikjelkehcnjmaaW13
namespace Go.Proofs.Ytikjelkehcnjmaa
set_option linter.unusedVariables false
def pr (ps : List Pr) (i : Nat) : Pr := (ps[i]?).getD ⟨0, 0⟩
def lst (ps : List Pr) : Nat → Int
  | 0 => -1
  | i + 1 => (pr ps i).r
def tk (ps : List Pr) : Nat → Nat → Bool
  | 0 => fun _ => false
  | i + 1 => mark (tk ps i) (pr ps i).c.toNat
def OkP (m k : Nat) (W : Nat → Nat → Int) (ps : List Pr) (i : Nat) : Prop :=
  lst ps i < (pr ps i).r ∧ (pr ps i).r < m ∧ 0 ≤ (pr ps i).c ∧ (pr ps i).c < k ∧ tk ps i (pr ps i).c.toNat = false ∧ W (pr ps i).r.toNat (pr ps i).c.toNat ≠ 0
def Vd (m k : Nat) (W : Nat → Nat → Int) (ps : List Pr) (j : Nat) : Prop := ∀ i, i < j → OkP m k W ps i
def sm (W : Nat → Nat → Int) (ps : List Pr) (j : Nat) : Int := tot (fun i => W (pr ps i).r.toNat (pr ps i).c.toNat) j
def fo (ps : List Pr) : Nat → Nat → Option Nat
  | 0 => fun _ => none
  | i + 1 => give (fo ps i) (pr ps i).r.toNat (pr ps i).c.toNat
theorem pr_get {ps : List Pr} {i : Nat} (h : i < ps.length) : ps[i]? = some (pr ps i) := by
  unfold pr; rw [List.getElem?_eq_getElem h]; rfl
theorem wor_give {W : Nat → Nat → Int} {f : Nat → Option Nat} {r c m : Nat} (hr : r < m) (hf : f r = none) : wor W (give f r c) m = wor W f m + W r c := by
  unfold wor
  have a := tot_but (f := fun i => pay (W i) (f i)) hr
  have b := tot_but (f := fun i => pay (W i) (give f r c i)) hr
  have e : but (fun i => pay (W i) (give f r c i)) r = but (fun i => pay (W i) (f i)) r := by
    funext i
    unfold but
    by_cases h : i = r
    · rw [if_pos h, if_pos h]
    · rw [if_neg h, if_neg h]; show pay (W i) (give f r c i) = _; rw [give_ne h]
  rw [e] at b
  have b2 : pay (W r) (give f r c r) = W r c := by rw [give_self]; rfl
  have a2 : pay (W r) (f r) = 0 := by rw [hf]; rfl
  have a3 := a
  have b3 := b
  rw [a2] at a3
  rw [b2] at b3
  show tot (fun i => pay (W i) (give f r c i)) m = tot (fun i => pay (W i) (f i)) m + W r c
  omega
section
variable {m k : Nat} {W : Nat → Nat → Int} {ps : List Pr} {j : Nat}
theorem Vd.lst0 (h : Vd m k W ps j) : ∀ i, i ≤ j → -1 ≤ lst ps i
  | 0, _ => Int.le_refl _
  | i + 1, hi => by
    have a := Vd.lst0 h i (by omega)
    have b := (h i (by omega)).1
    show -1 ≤ (pr ps i).r
    omega
theorem Vd.inv (h : Vd m k W ps j) (hW : ∀ r c, 0 ≤ W r c) : ∀ i, i ≤ j →
    (∀ r c, fo ps i r = some c → (r : Int) ≤ lst ps i ∧ r < m ∧ c < k ∧ 0 < W r c ∧ tk ps i c = true) ∧ (∀ r r' c, fo ps i r = some c → fo ps i r' = some c → r = r') ∧ wor W (fo ps i) m = sm W ps i
  | 0, _ => ⟨fun r c e => (by cases e), fun r r' c e => (by cases e), by unfold wor; exact tot_zero m⟩
  | i + 1, hi => by
    obtain ⟨i1, i2, i3⟩ := Vd.inv h hW i (by omega)
    obtain ⟨o1, o2, o3, o4, o5, o6⟩ := h i (by omega)
    have l0 := h.lst0 i (by omega)
    obtain ⟨r0, hr0⟩ : ∃ r0 : Nat, (pr ps i).r = r0 := ⟨(pr ps i).r.toNat, by omega⟩
    obtain ⟨c0, hc0⟩ : ∃ c0 : Nat, (pr ps i).c = c0 := ⟨(pr ps i).c.toNat, by omega⟩
    have ef : fo ps (i + 1) = give (fo ps i) r0 c0 := by show give _ _ _ = _; rw [hr0, hc0, Int.toNat_natCast, Int.toNat_natCast]
    have et : tk ps (i + 1) = mark (tk ps i) c0 := by show mark _ _ = _; rw [hc0, Int.toNat_natCast]
    have el : lst ps (i + 1) = r0 := hr0
    have es : sm W ps (i + 1) = sm W ps i + W r0 c0 := by show sm W ps i + W _ _ = _; rw [hr0, hc0, Int.toNat_natCast, Int.toNat_natCast]
    rw [hc0, Int.toNat_natCast] at o5
    rw [hr0, hc0, Int.toNat_natCast, Int.toNat_natCast] at o6
    have hn : fo ps i r0 = none := by
      cases e : fo ps i r0 with
      | none => rfl
      | some c => have := (i1 r0 c e).1; omega
    have wp := hW r0 c0
    rw [ef, et, el, es]
    refine ⟨fun r c e => ?_, fun r r' c e e' => ?_, by rw [wor_give (by omega) hn, i3]⟩
    · by_cases x : r = r0
      · subst x; rw [give_self] at e; injection e with e; subst e
        exact ⟨Int.le_refl _, by omega, by omega, by omega, mark_self _ _⟩
      · rw [give_ne x] at e
        obtain ⟨a1, a2, a3, a4, a5⟩ := i1 r c e
        exact ⟨by omega, a2, a3, a4, mark_of a5⟩
    · by_cases x : r = r0 <;> by_cases y : r' = r0
      · omega
      · subst x; rw [give_self] at e; rw [give_ne y] at e'; injection e with e; subst e
        have := (i1 r' c0 e').2.2.2.2; rw [o5] at this; cases this
      · subst y; rw [give_self] at e'; rw [give_ne x] at e; injection e' with e'; subst e'
        have := (i1 r c0 e).2.2.2.2; rw [o5] at this; cases this
      · rw [give_ne x] at e; rw [give_ne y] at e'; exact i2 r r' c e e'
theorem Vd.mat (h : Vd m k W ps j) (hW : ∀ r c, 0 ≤ W r c) : Mat m k W (fo ps j) ∧ wor W (fo ps j) m = sm W ps j := by
  obtain ⟨h1, h2, h3⟩ := h.inv hW j (Nat.le_refl _)
  exact ⟨⟨fun r c _ e => ⟨(h1 r c e).2.2.1, (h1 r c e).2.2.2.1⟩, fun r r' c _ _ => h2 r r' c⟩, h3⟩
/-- one pair more at the end -/
theorem pr_app {p : Pr} {i : Nat} (h : i < ps.length) : pr (ps ++ [p]) i = pr ps i := by unfold pr; rw [List.getElem?_append_left h]
theorem pr_last {p : Pr} : pr (ps ++ [p]) ps.length = p := by unfold pr; rw [List.getElem?_append_right (Nat.le_refl _)]; simp
theorem lst_app {p : Pr} : ∀ {i : Nat}, i ≤ ps.length → lst (ps ++ [p]) i = lst ps i
  | 0, _ => rfl
  | i + 1, h => by show (pr _ i).r = (pr _ i).r; rw [pr_app (by omega)]
theorem tk_app {p : Pr} : ∀ {i : Nat}, i ≤ ps.length → tk (ps ++ [p]) i = tk ps i
  | 0, _ => rfl
  | i + 1, h => by show mark _ _ = mark _ _; rw [pr_app (by omega), tk_app (by omega)]
theorem sm_app {p : Pr} : ∀ {i : Nat}, i ≤ ps.length → sm W (ps ++ [p]) i = sm W ps i
  | 0, _ => rfl
  | i + 1, h => by
    show sm W (ps ++ [p]) i + W (pr (ps ++ [p]) i).r.toNat (pr (ps ++ [p]) i).c.toNat = sm W ps i + W (pr ps i).r.toNat (pr ps i).c.toNat
    rw [sm_app (by omega), pr_app (by omega)]
theorem Vd.app {p : Pr} (h : Vd m k W ps ps.length) (h1 : lst ps ps.length < p.r) (h2 : p.r < m) (h3 : 0 ≤ p.c) (h4 : p.c < k) (h5 : tk ps ps.length p.c.toNat = false) (h6 : W p.r.toNat p.c.toNat ≠ 0) : Vd m k W (ps ++ [p]) (ps ++ [p]).length := by
  intro i hi
  rw [List.length_append] at hi
  simp only [List.length_cons, List.length_nil, Nat.zero_add] at hi
  unfold OkP
  by_cases e : i = ps.length
  · subst e
    rw [pr_last, lst_app (Nat.le_refl _), tk_app (Nat.le_refl _)]
    exact ⟨h1, h2, h3, h4, h5, h6⟩
  · rw [pr_app (by omega), lst_app (by omega), tk_app (by omega)]
    exact h i (by omega)
end
theorem pl_ok {m k : Nat} {W : Nat → Nat → Int} {f : Nat → Option Nat} (hM : Mat m k W f) : ∀ r, r ≤ m →
    Vd m k W (pl f r) (pl f r).length ∧ lst (pl f r) (pl f r).length < r ∧ (∀ c, tk (pl f r) (pl f r).length c = true → ∃ r', r' < r ∧ f r' = some c) ∧ sm W (pl f r) (pl f r).length = wor W f r
  | 0, _ => ⟨fun i hi => absurd hi (Nat.not_lt_zero _), by show (-1 : Int) < 0; decide, fun c h => (by cases h), rfl⟩
  | r + 1, hr => by
    obtain ⟨h1, h2, h3, h4⟩ := pl_ok hM r (by omega)
    have ew : wor W f (r + 1) = wor W f r + pay (W r) (f r) := rfl
    cases e : f r with
    | none =>
      rw [pl_none e, ew, e]
      exact ⟨h1, by omega, fun c hc => by obtain ⟨r', a, b⟩ := h3 c hc; exact ⟨r', by omega, b⟩, by rw [h4]; simp [pay]⟩
    | some c =>
      rw [pl_some e, ew, e]
      have he := hM.edge r c (by omega) e
      have ec : ((c : Nat) : Int).toNat = c := Int.toNat_natCast c
      have er : ((r : Nat) : Int).toNat = r := Int.toNat_natCast r
      have hl : (pl f r ++ [(⟨r, c⟩ : Pr)]).length = (pl f r).length + 1 := by simp
      refine ⟨h1.app (p := ⟨r, c⟩) h2 (by show (r : Int) < m; omega) (by show (0 : Int) ≤ c; omega) (by show (c : Int) < k; omega) ?_ ?_, ?_, fun c' hc' => ?_, ?_⟩
      · show tk _ _ ((c : Nat) : Int).toNat = false
        rw [ec]
        refine ff_of fun x => ?_
        obtain ⟨r', a, b⟩ := h3 c x
        have := hM.inj r r' c (by omega) (by omega) e b
        omega
      · show W ((r : Nat) : Int).toNat ((c : Nat) : Int).toNat ≠ 0
        rw [er, ec]; omega
      · rw [hl]; show (pr _ _).r < _; rw [pr_last]; show (r : Int) < _; omega
      · rw [hl] at hc'
        have hc2 : mark (tk (pl f r ++ [(⟨r, c⟩ : Pr)]) (pl f r).length) (pr (pl f r ++ [(⟨r, c⟩ : Pr)]) (pl f r).length).c.toNat c' = true := hc'
        rw [pr_last, tk_app (Nat.le_refl _)] at hc2
        by_cases x : c' = c
        · exact ⟨r, by omega, by rw [x]; exact e⟩
        · rw [mark_ne (by show c' ≠ ((c : Nat) : Int).toNat; rw [ec]; exact x)] at hc2
          obtain ⟨r', a, b⟩ := h3 c' hc2
          exact ⟨r', by omega, b⟩
      · rw [hl]
        show sm _ _ _ + W (pr _ _).r.toNat (pr _ _).c.toNat = _
        rw [pr_last, sm_app (Nat.le_refl _), h4]
        show _ + W ((r : Nat) : Int).toNat ((c : Nat) : Int).toNat = _
        rw [er, ec]; rfl
end Go.Proofs.Ytikjelkehcnjmaa
