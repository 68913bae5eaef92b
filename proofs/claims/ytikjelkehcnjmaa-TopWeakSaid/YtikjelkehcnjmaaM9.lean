/- Top: graphs as lists of edges: when one may be; the table of its weights. -/
import Derived.Test.YtikjelkehcnjmaaM8
namespace Go.Proofs.Ytikjelkehcnjmaa
set_option linter.unusedVariables false
structure Ed where
  r : Int
  c : Int
  w : Int
def MAXW : Int := 1099513724929
def E0 : Ed := ⟨-1, 0, 0⟩
def ed (xs : List Ed) (i : Nat) : Ed := (xs[i]?).getD E0
def prv (xs : List Ed) : Nat → Ed
  | 0 => E0
  | i + 1 => ed xs i
def InB (rows cols : Int) (x : Ed) : Prop := 0 ≤ x.r ∧ x.r < rows ∧ 0 ≤ x.c ∧ x.c < cols ∧ 1 ≤ x.w ∧ x.w ≤ 1099513724929
def Aft (l x : Ed) : Prop := l.r ≤ x.r ∧ (x.r = l.r → l.c < x.c)
def Sz (rows cols : Int) : Prop := 0 ≤ rows ∧ rows ≤ 64 ∧ 0 ≤ cols ∧ cols ≤ 64
def OkTo (rows cols : Int) (xs : List Ed) (j : Nat) : Prop := ∀ i, i < j → InB rows cols (ed xs i) ∧ Aft (prv xs i) (ed xs i)
def Gr (rows cols : Int) (xs : List Ed) : Prop := Sz rows cols ∧ OkTo rows cols xs xs.length
noncomputable def chk (rows cols : Int) (xs : List Ed) : Int := @ite _ (Gr rows cols xs) (Classical.propDecidable _) 0 170
theorem chk_ok {rows cols : Int} {xs : List Ed} (h : Gr rows cols xs) : chk rows cols xs = 0 := if_pos h
theorem chk_no {rows cols : Int} {xs : List Ed} (h : ¬ Gr rows cols xs) : chk rows cols xs = 170 := if_neg h
def set2 (W : Nat → Nat → Int) (r c : Nat) (v : Int) : Nat → Nat → Int := fun a b => if a = r ∧ b = c then v else W a b
def wtn (xs : List Ed) : Nat → Nat → Nat → Int
  | 0 => fun _ _ => 0
  | j + 1 => set2 (wtn xs j) (ed xs j).r.toNat (ed xs j).c.toNat (ed xs j).w
def wt (xs : List Ed) : Nat → Nat → Int := wtn xs xs.length
section
variable {rows cols : Int} {xs : List Ed} {i j r c : Nat}
theorem wtn_no (h : ∀ i, i < j → ¬ ((ed xs i).r.toNat = r ∧ (ed xs i).c.toNat = c)) : wtn xs j r c = 0 := by
  induction j with
  | zero => rfl
  | succ j ih =>
    show set2 _ _ _ _ r c = 0
    unfold set2
    rw [if_neg (fun e => h j (by omega) ⟨e.1.symm, e.2.symm⟩)]
    exact ih fun i hi => h i (by omega)
theorem wtn_at (hi : i < j) (e : (ed xs i).r.toNat = r ∧ (ed xs i).c.toNat = c) (h : ∀ k, i < k → k < j → ¬ ((ed xs k).r.toNat = r ∧ (ed xs k).c.toNat = c)) : wtn xs j r c = (ed xs i).w := by
  induction j with
  | zero => omega
  | succ j ih =>
    show set2 _ _ _ _ r c = _
    unfold set2
    by_cases x : i = j
    · subst x; rw [if_pos ⟨e.1.symm, e.2.symm⟩]
    · rw [if_neg (fun y => h j (by omega) (by omega) ⟨y.1.symm, y.2.symm⟩)]
      exact ih (by omega) fun k h1 h2 => h k h1 (by omega)
theorem wtn_or (j r c : Nat) : wtn xs j r c = 0 ∨ ∃ i, i < j ∧ (ed xs i).r.toNat = r ∧ (ed xs i).c.toNat = c ∧ wtn xs j r c = (ed xs i).w := by
  induction j with
  | zero => exact .inl rfl
  | succ j ih =>
    by_cases x : (ed xs j).r.toNat = r ∧ (ed xs j).c.toNat = c
    · refine .inr ⟨j, by omega, x.1, x.2, ?_⟩
      show set2 _ _ _ _ r c = _
      unfold set2; rw [if_pos ⟨x.1.symm, x.2.symm⟩]
    · have e : wtn xs (j + 1) r c = wtn xs j r c := by
        show set2 _ _ _ _ r c = _
        unfold set2; rw [if_neg fun y => x ⟨y.1.symm, y.2.symm⟩]
      rcases ih with h | ⟨i, h1, h2⟩
      · exact .inl (e.trans h)
      · exact .inr ⟨i, by omega, by rw [e]; exact h2⟩
/-- what stands ahead is less -/
theorem OkTo.lt (h : OkTo rows cols xs j) : ∀ d i, i + d + 1 < j → (ed xs i).r ≤ (ed xs (i + d + 1)).r ∧ ((ed xs (i + d + 1)).r = (ed xs i).r → (ed xs i).c < (ed xs (i + d + 1)).c)
  | 0, i, hi => (h (i + 1) (by omega)).2
  | d + 1, i, hi => by
    have a := OkTo.lt h d i (by omega)
    have b := (h (i + d + 1 + 1) (by omega)).2
    have b1 : (ed xs (i + d + 1)).r ≤ (ed xs (i + d + 1 + 1)).r := b.1
    have b2 : (ed xs (i + d + 1 + 1)).r = (ed xs (i + d + 1)).r → (ed xs (i + d + 1)).c < (ed xs (i + d + 1 + 1)).c := b.2
    rw [show i + (d + 1) + 1 = i + d + 1 + 1 by omega]
    refine ⟨by omega, fun e => ?_⟩
    have := a.2 (by omega)
    have := b2 (by omega)
    omega
theorem OkTo.lt' (h : OkTo rows cols xs j) {i k : Nat} (hi : i < k) (hk : k < j) : (ed xs i).r ≤ (ed xs k).r ∧ ((ed xs k).r = (ed xs i).r → (ed xs i).c < (ed xs k).c) := by
  have := h.lt (k - i - 1) i (by omega)
  rw [show i + (k - i - 1) + 1 = k by omega] at this
  exact this
theorem Gr.edge (h : Gr rows cols xs) (hi : i < xs.length) (e : (ed xs i).r = r ∧ (ed xs i).c = c) : wt xs r c = (ed xs i).w := by
  refine wtn_at hi ⟨by omega, by omega⟩ fun k h1 h2 x => ?_
  have a := h.2.lt' h1 h2
  have b := (h.2 k h2).1
  unfold InB at b
  have := a.2 (by omega)
  omega
theorem Gr.some (h : Gr rows cols xs) (r c : Nat) : wt xs r c = 0 ∨ ∃ i, i < xs.length ∧ (ed xs i).r = r ∧ (ed xs i).c = c ∧ wt xs r c = (ed xs i).w := by
  rcases wtn_or (xs := xs) xs.length r c with h1 | ⟨i, h1, h2, h3, h4⟩
  · exact .inl h1
  · have b := (h.2 i h1).1
    unfold InB at b
    exact .inr ⟨i, h1, by omega, by omega, h4⟩
theorem Gr.range (h : Gr rows cols xs) (r c : Nat) : 0 ≤ wt xs r c ∧ wt xs r c ≤ MAXW := by
  rcases h.some r c with e | ⟨i, h1, _, _, e⟩
  · rw [e]; exact ⟨Int.le_refl _, by decide⟩
  · have b := (h.2 i h1).1
    unfold InB at b
    rw [e]; unfold MAXW; omega
theorem Gr.inside (h : Gr rows cols xs) (r c : Nat) (hp : 0 < wt xs r c) : (r : Int) < rows ∧ (c : Int) < cols := by
  rcases h.some r c with e | ⟨i, h1, h2, h3, e⟩
  · omega
  · have b := (h.2 i h1).1
    unfold InB at b
    omega
theorem Gr.len (h : Gr rows cols xs) : xs.length ≤ 4096 := by
  have key : ∀ i, i < xs.length → (i : Int) ≤ (ed xs i).r * 64 + (ed xs i).c := by
    intro i
    induction i with
    | zero =>
      intro hi
      have b := (h.2 0 hi).1
      unfold InB at b
      omega
    | succ i ih =>
      intro hi
      have a := ih (by omega)
      have b := (h.2 i (by omega)).1
      have c := h.2 (i + 1) hi
      unfold InB at b c
      have s := h.1
      unfold Sz at s
      have c1 : (ed xs i).r ≤ (ed xs (i + 1)).r := c.2.1
      have c2 : (ed xs (i + 1)).r = (ed xs i).r → (ed xs i).c < (ed xs (i + 1)).c := c.2.2
      by_cases e : (ed xs (i + 1)).r = (ed xs i).r
      · have := c2 e; omega
      · omega
  by_cases e : 0 < xs.length
  · have a := key (xs.length - 1) (by omega)
    have b := (h.2 (xs.length - 1) (by omega)).1
    have s := h.1
    unfold Sz at s
    unfold InB at b
    omega
  · omega
end
end Go.Proofs.Ytikjelkehcnjmaa
