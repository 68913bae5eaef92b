/- Top: the least prices, and what a column more does to them. -/
import Derived.Test.YtikjelkehcnjmaaM1
namespace Go.Proofs.Ytikjelkehcnjmaa
set_option linter.unusedVariables false
section
variable {m k : Nat} {w : Nat → Nat → Int} {f g : Nat → Option Nat} {y z y' z' : Nat → Int}
/-- the columns' prices are the least that stand with the matching -/
structure Lst (m k : Nat) (w : Nat → Nat → Int) (f : Nat → Option Nat) (y z : Nat → Int) : Prop where
  dual : Dual m k w y z
  comp : Comp m k w f y z
  least : ∀ y' z', Dual m k w y' z' → Comp m k w f y' z' → ∀ c, c < k → z c ≤ z' c
/-- prices that stand with one best matching stand with any -/
theorem Dual.comp_of (h : Dual m k w y z) (hf : Mat m k w f) (cf : Comp m k w f y z) (hg : Mat m k w g) (hd : Dual m k w y' z') (cg : Comp m k w g y' z') : Comp m k w g y z := by
  refine h.comp hg ?_
  have a := h.bound hg
  have b := hd.bound hf
  have c := cf.eq hf
  have d := cg.eq hg
  omega
theorem Lst.of (h : Lst m k w f y z) (hf : Mat m k w f) (hg : Mat m k w g) (cg : Comp m k w g y z) : Lst m k w g y z :=
  ⟨h.dual, cg, fun y' z' hd hc => h.least y' z' hd (hd.comp_of hg hc hf h.dual h.comp)⟩
/-- the price of a row by the columns' -/
def own (w : Nat → Nat → Int) (f : Nat → Option Nat) (z : Nat → Int) (r : Nat) : Int := match f r with | none => 0 | some c => w r c - z c
/-- below all prices that stand with the matching -/
structure Pin (m k : Nat) (w : Nat → Nat → Int) (f : Nat → Option Nat) (z : Nat → Int) : Prop where
  z0 : ∀ c, c < k → 0 ≤ z c
  low : ∀ y' z', Dual m k w y' z' → Comp m k w f y' z' → ∀ c, c < k → z c ≤ z' c
theorem pin_zero : Pin m k w f (fun _ => 0) := ⟨fun _ _ => Int.le_refl _, fun _ _ hd _ c hc => hd.z0 c hc⟩
theorem own_ge (hM : Mat m k w f) (hp : Pin m k w f z) (hd : Dual m k w y' z') (hc : Comp m k w f y' z') {r : Nat} (hr : r < m) : y' r ≤ own w f z r := by
  unfold own
  cases e : f r with
  | none => have := hc.row r hr e; simp only; omega
  | some c =>
    have := hc.tight r c hr e
    have := hp.low y' z' hd hc c (hM.edge r c hr e).1
    simp only; omega
def up (z : Nat → Int) (c : Nat) (x : Int) : Nat → Int := fun d => if d = c then x else z d
theorem pin_step (hM : Mat m k w f) (hp : Pin m k w f z) {r c : Nat} (hr : r < m) (hc : c < k) {o : Int} (ho : o = own w f z r) (hx : z c < w r c - o) : Pin m k w f (up z c (w r c - o)) := by
  refine ⟨fun d hd => ?_, fun y' z' hd hcm d hdk => ?_⟩
  · unfold up
    by_cases e : d = c
    · rw [if_pos e]; have := hp.z0 c hc; omega
    · rw [if_neg e]; exact hp.z0 d hd
  · unfold up
    by_cases e : d = c
    · rw [if_pos e, e]
      have := own_ge hM hp hd hcm hr
      have := hd.le r c hr hc
      omega
    · rw [if_neg e]; exact hp.low y' z' hd hcm d hdk
theorem up_tot {c : Nat} {x : Int} (hc : c < k) : tot (up z c x) k = tot z k - z c + x := by
  have a := tot_but (f := z) hc
  have b := tot_but (f := up z c x) hc
  have e : but (up z c x) c = but z c := by
    funext d; unfold but up
    by_cases h : d = c
    · rw [if_pos h, if_pos h]
    · rw [if_neg h, if_neg h, if_neg h]
  have : up z c x c = x := by unfold up; rw [if_pos rfl]
  rw [e, this] at b
  omega
theorem pin_fix (hM : Mat m k w f) (hp : Pin m k w f z) (hd : Dual m k w y' z') (hc : Comp m k w f y' z') (hfix : ∀ r c, r < m → c < k → f r ≠ some c → w r c - own w f z r ≤ z c) : Lst m k w f (own w f z) z := by
  refine ⟨⟨fun r hr => Int.le_trans (hd.y0 r hr) (own_ge hM hp hd hc hr), hp.z0, fun r c hr hck => ?_⟩, ⟨fun r c hr e => ?_, fun r hr e => ?_, fun c hck hn => ?_⟩, hp.low⟩
  · by_cases e : f r = some c
    · unfold own; rw [e]; simp only; omega
    · have := hfix r c hr hck e; omega
  · unfold own; rw [e]; simp only; omega
  · unfold own; rw [e]
  · have := hc.col c hck hn
    have := hp.low y' z' hd hc c hck
    have := hp.z0 c hck
    omega
end
/-- a column more: no row's price is less, no column's more, the matching worth no less -/
theorem more_cols {m k : Nat} {w w' : Nat → Nat → Int} {f f' : Nat → Option Nat} {y z y' z' : Nat → Int} (hw : ∀ r c, r < m → c < k → w' r c = w r c)
    (hM : Mat m k w f) (hL : Lst m k w f y z) (hM' : Mat m (k + 1) w' f') (hL' : Lst m (k + 1) w' f' y' z') :
    (∀ r, r < m → y r ≤ y' r) ∧ (∀ c, c < k → z' c ≤ z c) ∧ wor w f m ≤ wor w' f' m := by
  have d1 : Dual m k w (fun r => min (y r) (y' r)) (fun c => max (z c) (z' c)) := by
    refine ⟨fun r hr => ?_, fun c hc => ?_, fun r c hr hc => ?_⟩
    · have := hL.dual.y0 r hr; have := hL'.dual.y0 r hr; omega
    · have := hL.dual.z0 c hc; omega
    · have := hL.dual.le r c hr hc; have := hL'.dual.le r c hr (by omega); have := hw r c hr hc; omega
  have d2 : Dual m (k + 1) w' (fun r => max (y r) (y' r)) (fun c => if c < k then min (z c) (z' c) else z' c) := by
    refine ⟨fun r hr => ?_, fun c hc => ?_, fun r c hr hc => ?_⟩
    · have := hL.dual.y0 r hr; omega
    · skip
      by_cases e : c < k
      · rw [if_pos e]; have := hL.dual.z0 c e; have := hL'.dual.z0 c hc; omega
      · rw [if_neg e]; exact hL'.dual.z0 c hc
    · skip
      by_cases e : c < k
      · rw [if_pos e]; have := hL.dual.le r c hr e; have := hL'.dual.le r c hr hc; have := hw r c hr e; omega
      · rw [if_neg e]; have := hL'.dual.le r c hr hc; omega
  have s1 : tot (fun r => min (y r) (y' r)) m + tot (fun r => max (y r) (y' r)) m = tot y m + tot y' m := by
    rw [← tot_add, ← tot_add]; exact tot_eq fun r _ => by omega
  have s2 : tot (fun c => max (z c) (z' c)) k + tot (fun c => if c < k then min (z c) (z' c) else z' c) k = tot z k + tot z' k := by
    rw [← tot_add, ← tot_add]; exact tot_eq fun c hc => by rw [if_pos hc]; omega
  have s3 : tot (fun c => if c < k then min (z c) (z' c) else z' c) (k + 1) = tot (fun c => if c < k then min (z c) (z' c) else z' c) k + z' k := by
    simp only [tot]; rw [if_neg (Nat.lt_irrefl k)]
  have s4 : tot z' (k + 1) = tot z' k + z' k := rfl
  have b1 := d1.bound hM
  have b2 := d2.bound hM'
  have e1 := hL.comp.eq hM
  have e2 := hL'.comp.eq hM'
  have c2 := d2.comp hM' (by omega)
  have lz := hL'.least _ _ d2 c2
  have hz : ∀ c, c < k → z' c ≤ z c := fun c hc => by have := lz c (by omega); rw [if_pos hc] at this; omega
  refine ⟨fun r hr => ?_, hz, ?_⟩
  · cases e : f' r with
    | none => have := c2.row r hr e; have := hL'.dual.y0 r hr; omega
    | some c =>
      have a := c2.tight r c hr e
      have b := hL'.comp.tight r c hr e
      skip
      by_cases x : c < k
      · rw [if_pos x] at a; have := hz c x; omega
      · rw [if_neg x] at a; omega
  · have hx : Mat m (k + 1) w' f := ⟨fun r c hr e => by have := hM.edge r c hr e; exact ⟨by omega, by rw [hw r c hr this.1]; exact this.2⟩, hM.inj⟩
    have b := hL'.dual.bound hx
    have : wor w' f m = wor w f m := tot_eq fun r hr => by
      cases e : f r with
      | none => rfl
      | some c => exact hw r c hr (hM.edge r c hr e).1
    omega
end Go.Proofs.Ytikjelkehcnjmaa
