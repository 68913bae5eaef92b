/- Top: the least prices, plain: how they stand within a round of prices. -/
import Derived.Test.YtikjelkehcnjmaaM7
namespace Go.Proofs.Ytikjelkehcnjmaa
set_option linter.unusedVariables false
section
variable {m k : Nat} {w : Nat → Nat → Int} {f : Nat → Option Nat} {y y' z' z z0 : Nat → Int} {B : Int} {r c : Nat} {more : Bool}
theorem Comp.zle (hc : Comp m k w f y' z') (hd : Dual m k w y' z') (hw : ∀ i c, 0 ≤ w i c ∧ w i c ≤ B) (hB : 0 ≤ B) {c : Nat} (hk : c < k) : z' c ≤ B := by
  by_cases h : ∃ r, r < m ∧ f r = some c
  · obtain ⟨r, hr, e⟩ := h
    have := hc.tight r c hr e
    have := hd.y0 r hr
    have := (hw r c).2
    omega
  · rw [hc.col c hk fun r hr e => h ⟨r, hr, e⟩]; exact hB
/-- how the round of prices stands ahead of column c of row r -/
structure PR (m k : Nat) (w : Nat → Nat → Int) (f : Nat → Option Nat) (z0 : Nat → Int) (r c : Nat) (more : Bool) (z : Nat → Int) : Prop where
  pin : Pin m k w f z
  le : tot z0 k ≤ tot z k
  yes : more = true → tot z0 k < tot z k
  no : more = false → z = z0 ∧ ∀ r' c', (r' < r ∧ c' < k) ∨ (r' = r ∧ c' < c) → f r' ≠ some c' → w r' c' - own w f z r' ≤ z c'
  out : ∀ c, k ≤ c → z c = 0
theorem pr_first (h : Pin m k w f z0) (h0 : ∀ c, k ≤ c → z0 c = 0) : PR m k w f z0 0 0 false z0 :=
  ⟨h, Int.le_refl _, fun h => (by cases h), fun _ => ⟨rfl, fun r' c' h => by omega⟩, h0⟩
theorem PR.skip (h : PR m k w f z0 r c more z) (hs : f r = some c ∨ w r c - own w f z r ≤ z c) : PR m k w f z0 r (c + 1) more z := by
  refine ⟨h.pin, h.le, h.yes, fun e => ⟨(h.no e).1, fun r' c' hr hf => ?_⟩, h.out⟩
  by_cases x : r' = r ∧ c' = c
  · obtain ⟨rfl, rfl⟩ := x
    rcases hs with hs | hs
    · exact absurd hs hf
    · exact hs
  · exact (h.no e).2 r' c' (by omega) hf
theorem own_up (h : f r ≠ some c) {x : Int} : own w f (up z c x) r = own w f z r := by
  unfold own
  cases e : f r with
  | none => rfl
  | some d =>
    simp only
    rw [up_ne fun e2 => h (by rw [e, e2])]
theorem PR.put (h : PR m k w f z0 r c more z) (hM : Mat m k w f) (hr : r < m) (hc : c < k) (hx : z c < w r c - own w f z r) : PR m k w f z0 r (c + 1) true (up z c (w r c - own w f z r)) := by
  have e := up_tot (z := z) (x := w r c - own w f z r) hc
  have := h.le
  refine ⟨pin_step hM h.pin hr hc rfl hx, by omega, fun _ => by omega, fun e => (by cases e), fun d hd => ?_⟩
  rw [up_ne (by omega)]; exact h.out d hd
theorem PR.row (h : PR m k w f z0 r k more z) : PR m k w f z0 (r + 1) 0 more z :=
  ⟨h.pin, h.le, h.yes, fun e => ⟨(h.no e).1, fun r' c' hr hf => (h.no e).2 r' c' (by omega) hf⟩, h.out⟩
/-- ahead of a round -/
structure PO (m k : Nat) (w : Nat → Nat → Int) (f : Nat → Option Nat) (z' : Nat → Int) (g : Nat) (more : Bool) (z : Nat → Int) : Prop where
  pin : Pin m k w f z
  yes : more = true → tot z' k - tot z k + 1 ≤ g
  no : more = false → ∀ r c, r < m → c < k → f r ≠ some c → w r c - own w f z r ≤ z c
  out : ∀ c, k ≤ c → z c = 0
theorem po_first : PO m k w f z' ((tot z' k).toNat + 1) true (fun _ => 0) := by
  refine ⟨pin_zero, fun _ => ?_, fun h => (by cases h), fun _ _ => rfl⟩
  rw [tot_zero]; omega
theorem PO.next {g : Nat} (h : PO m k w f z' g true z0) (hd : Dual m k w y' z') (hc : Comp m k w f y' z') (p : PR m k w f z0 m 0 more z) : g - 1 < g ∧ PO m k w f z' (g - 1) more z := by
  have a := h.yes rfl
  have b : ∀ x, Pin m k w f x → tot x k ≤ tot z' k := fun x hx => tot_le fun c hk => hx.low y' z' hd hc c hk
  have b0 := b z0 h.pin
  have b1 := b z p.pin
  refine ⟨by omega, p.pin, fun e => ?_, fun e r c hr hk => ?_, p.out⟩
  · have := p.yes e; omega
  · exact (p.no e).2 r c (.inl ⟨hr, hk⟩)
theorem Pin.top (h : Pin m k w f z) (hd : Dual m k w y' z') (hc : Comp m k w f y' z') (hw : ∀ i c, 0 ≤ w i c ∧ w i c ≤ B) (hB : 0 ≤ B) {c : Nat} (hk : c < k) : 0 ≤ z c ∧ z c ≤ B :=
  ⟨h.z0 c hk, Int.le_trans (h.low y' z' hd hc c hk) (hc.zle hd hw hB hk)⟩
theorem Pin.own (h : Pin m k w f z) (hM : Mat m k w f) (hd : Dual m k w y' z') (hc : Comp m k w f y' z') (hw : ∀ i c, 0 ≤ w i c ∧ w i c ≤ B) (hB : 0 ≤ B) {r : Nat} (hr : r < m) : 0 ≤ own w f z r ∧ own w f z r ≤ B := by
  refine ⟨Int.le_trans (hd.y0 r hr) (own_ge hM h hd hc hr), ?_⟩
  unfold Ytikjelkehcnjmaa.own
  cases e : f r with
  | none => exact hB
  | some c =>
    have := h.z0 c (hM.edge r c hr e).1
    have := (hw r c).2
    simp only; omega
theorem own_some {d : Nat} (h : f r = some d) : own w f z r = w r d - z d := by unfold own; rw [h]
theorem own_none (h : f r = none) : own w f z r = 0 := by unfold own; rw [h]
theorem PO.lst {g : Nat} (h : PO m k w f z' g false z) (hM : Mat m k w f) (hd : Dual m k w y' z') (hc : Comp m k w f y' z') : Lst m k w f (own w f z) z := pin_fix hM h.pin hd hc (h.no rfl)
end
end Go.Proofs.Ytikjelkehcnjmaa
