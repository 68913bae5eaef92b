/- Top: a graph with a column more, built edge by edge. -/
import Derived.Test.YtikjelkehcnjmaaW21
namespace Go.Proofs.Ytikjelkehcnjmaa
set_option linter.unusedVariables false
section
variable {rows cols : Int} {L xs : List Ed} {e : Ed} {i r kk m k : Nat}
theorem ed_app (h : i < L.length) : ed (L ++ [e]) i = ed L i := by unfold ed; rw [List.getElem?_append_left h]
theorem ed_last : ed (L ++ [e]) L.length = e := by unfold ed; rw [List.getElem?_append_right (Nat.le_refl _)]; simp
theorem prv_app : ∀ {i : Nat}, i ≤ L.length → prv (L ++ [e]) i = prv L i
  | 0, _ => rfl
  | i + 1, h => ed_app (by omega)
theorem wtn_app : ∀ {j : Nat}, j ≤ L.length → wtn (L ++ [e]) j = wtn L j
  | 0, _ => rfl
  | j + 1, h => by
    show set2 _ _ _ _ = set2 _ _ _ _
    rw [ed_app (by omega), wtn_app (by omega)]
theorem wt_app : wt (L ++ [e]) = set2 (wt L) e.r.toNat e.c.toNat e.w := by
  have hl : (L ++ [e]).length = L.length + 1 := by simp
  unfold wt
  rw [hl]
  show set2 (wtn (L ++ [e]) L.length) (ed (L ++ [e]) L.length).r.toNat (ed (L ++ [e]) L.length).c.toNat (ed (L ++ [e]) L.length).w = _
  rw [ed_last, wtn_app (Nat.le_refl _)]
theorem OkTo.app (h : OkTo rows cols L L.length) (h1 : InB rows cols e) (h2 : Aft (prv L L.length) e) : OkTo rows cols (L ++ [e]) (L ++ [e]).length := by
  intro i hi
  have hl : (L ++ [e]).length = L.length + 1 := by simp
  by_cases z : i = L.length
  · subst z; rw [ed_last, prv_app (Nat.le_refl _)]; exact ⟨h1, h2⟩
  · rw [ed_app (by omega), prv_app (by omega)]; exact h i (by omega)
theorem prv_last : prv (L ++ [e]) (L ++ [e]).length = e := by
  have hl : (L ++ [e]).length = L.length + 1 := by simp
  rw [hl]; exact ed_last
/-- how the list stands within row r, edges up to kk copied -/
structure WJ (m k : Nat) (xs : List Ed) (r kk : Nat) (L : List Ed) : Prop where
  ok : OkTo m ((k + 1 : Nat) : Int) L L.length
  le : (prv L L.length).r < r ∨ ((prv L L.length).r = r ∧ (prv L L.length).c < k ∧ prv L L.length = prv xs kk)
  wt : ∀ r' c, c < k → wt L r' c = wtn xs kk r' c
  kn : kk ≤ xs.length
  ge : ∀ i, kk ≤ i → i < xs.length → r ≤ (ed xs i).r
  len : L.length ≤ kk + r
theorem wj_first (hG : Gr m k xs) : WJ m k xs 0 0 [] :=
  ⟨fun i hi => absurd hi (Nat.not_lt_zero _), .inl (by show (-1 : Int) < _; decide), fun _ _ _ => rfl, Nat.zero_le _, fun i _ hi => by have := (hG.2 i hi).1; unfold InB at this; omega, Nat.zero_le _⟩
theorem WJ.copy (h : WJ m k xs r kk L) (hG : Gr m k xs) (hk : kk < xs.length) (hr : (ed xs kk).r = r) : WJ m k xs r (kk + 1) (L ++ [ed xs kk]) := by
  have o := hG.2 kk hk
  have b := o.1
  have a := o.2
  unfold InB at b
  refine ⟨h.ok.app ?_ ?_, .inr ?_, fun r' c hc => ?_, hk, fun i h1 h2 => h.ge i (by omega) h2, ?_⟩
  · unfold InB; omega
  · rcases h.le with l | ⟨l1, l2, l3⟩
    · unfold Aft; omega
    · rw [l3]; exact a
  · rw [prv_last]; exact ⟨hr, by omega, rfl⟩
  · rw [wt_app]
    show set2 _ _ _ _ _ _ = set2 _ _ _ _ _ _
    unfold set2
    rw [h.wt r' c hc]
  · have := h.len; rw [List.length_append]; simp; omega
/-- behind the copying of a row -/
theorem WJ.next (h : WJ m k xs r kk L) (hG : Gr m k xs) (hx : kk = xs.length ∨ (ed xs kk).r ≠ r) : ∀ i, kk ≤ i → i < xs.length → r + 1 ≤ (ed xs i).r := by
  intro i h1 h2
  have g := h.ge i h1 h2
  have g0 := h.ge kk (Nat.le_refl _) (by omega)
  rcases hx with hx | hx
  · omega
  · by_cases z : i = kk
    · subst z; omega
    · have := (hG.2.lt' (i := kk) (k := i) (by omega) h2).1
      omega
theorem WJ.skip (h : WJ m k xs r kk L) (hg : ∀ i, kk ≤ i → i < xs.length → r + 1 ≤ (ed xs i).r) : WJ m k xs (r + 1) kk L :=
  ⟨h.ok, .inl (by rcases h.le with l | ⟨l, _⟩ <;> omega), h.wt, h.kn, fun i h1 h2 => by have := hg i h1 h2; omega, by have := h.len; omega⟩
theorem WJ.more (h : WJ m k xs r kk L) (hg : ∀ i, kk ≤ i → i < xs.length → r + 1 ≤ (ed xs i).r) (hr : r < m) {w : Int} (h1 : 1 ≤ w) (h2 : w ≤ 1099513724929) : WJ m k xs (r + 1) kk (L ++ [⟨r, k, w⟩]) := by
  refine ⟨h.ok.app ?_ ?_, .inl ?_, fun r' c hc => ?_, h.kn, fun i h1 h2 => by have := hg i h1 h2; omega, ?_⟩
  · unfold InB
    show (0 : Int) ≤ r ∧ (r : Int) < m ∧ (0 : Int) ≤ k ∧ (k : Int) < ((k + 1 : Nat) : Int) ∧ 1 ≤ w ∧ w ≤ _
    omega
  · unfold Aft
    show (prv L L.length).r ≤ (r : Int) ∧ ((r : Int) = (prv L L.length).r → (prv L L.length).c < (k : Int))
    rcases h.le with l | ⟨l1, l2, _⟩ <;> omega
  · rw [prv_last]; show (r : Int) < ((r + 1 : Nat) : Int); omega
  · rw [wt_app]
    show set2 _ ((r : Nat) : Int).toNat ((k : Nat) : Int).toNat w r' c = _
    rw [Int.toNat_natCast, Int.toNat_natCast]
    unfold set2
    rw [if_neg (by omega)]
    exact h.wt r' c hc
  · have := h.len; rw [List.length_append]; simp; omega
theorem WJ.end_ (h : WJ m k xs m kk L) (hG : Gr m k xs) (hk : k < 64) : Gr m ((k + 1 : Nat) : Int) L ∧ ∀ r c, c < k → Ytikjelkehcnjmaa.wt L r c = Ytikjelkehcnjmaa.wt xs r c := by
  have s := hG.1
  unfold Sz at s
  have e : kk = xs.length := by
    by_cases z : kk < xs.length
    · have := h.ge kk (Nat.le_refl _) z
      have b := (hG.2 kk z).1
      unfold InB at b
      omega
    · have := h.kn; omega
  subst e
  refine ⟨⟨?_, h.ok⟩, h.wt⟩
  unfold Sz; omega
end
end Go.Proofs.Ytikjelkehcnjmaa
