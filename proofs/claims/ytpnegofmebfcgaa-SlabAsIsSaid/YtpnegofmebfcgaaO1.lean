/- Slabs, with no program in sight: handles told, and which of them still stand for something. -/
import Derived.Test.YtpnegofmebfcgaaS1
namespace Go.Proofs.Ytpnegofmebfcgaa
open Go.RowKit

theorem first_free : ∀ l : List SL, (l.filter (·.full)).length < l.length → ∃ (i : Nat) (s : SL), l[i]? = some s ∧ s.full = false ∧ ∀ (j : Nat) (t : SL), j < i → l[j]? = some t → t.full = true
  | [], h => by simp at h
  | s :: r, h => by
    cases hs : s.full with
    | false => exact ⟨0, s, rfl, hs, fun j t hj => absurd hj (Nat.not_lt_zero j)⟩
    | true =>
      rw [List.filter_cons, if_pos hs, List.length_cons, List.length_cons] at h
      obtain ⟨i, t, h1, h2, h3⟩ := first_free r (by omega)
      refine ⟨i + 1, t, by simpa using h1, h2, fun j u hj hu => ?_⟩
      match j with
      | 0 => simp at hu; subst hu; exact hs
      | j + 1 => exact h3 j u (by omega) (by simpa using hu)
theorem all_full : ∀ l : List SL, ¬ (l.filter (·.full)).length < l.length → ∀ (j : Nat) (t : SL), l[j]? = some t → t.full = true
  | [], _, j, t, ht => by simp at ht
  | s :: r, h, j, t, ht => by
    have hle := List.length_filter_le (fun x : SL => x.full) r
    cases hs : s.full with
    | false => rw [List.filter_cons, if_neg (by rw [hs]; decide), List.length_cons] at h; omega
    | true =>
      rw [List.filter_cons, if_pos hs, List.length_cons, List.length_cons] at h
      match j with
      | 0 => simp at ht; subst ht; exact hs
      | j + 1 => exact all_full r (by omega) j t (by simpa using ht)
theorem count_set : ∀ (l : List SL) (i : Nat) (s t : SL), l[i]? = some s →
    ((l.set i t).filter (·.full)).length + (if s.full then 1 else 0) = (l.filter (·.full)).length + (if t.full then 1 else 0)
  | [], i, s, t, h => by simp at h
  | q :: r, 0, s, t, h => by
    simp at h; subst h
    rw [List.set_cons_zero, List.filter_cons, List.filter_cons]
    cases hq : q.full <;> cases ht : t.full <;> simp
  | q :: r, i + 1, s, t, h => by
    have := count_set r i s t (by simpa using h)
    rw [List.set_cons_succ, List.filter_cons, List.filter_cons]
    cases hq : q.full <;> simp <;> omega

/-- The handles that a slab has told, and whether each still stands for its thing. -/
structure OInv (l : List SL) (told : List (Int × Int)) (here : List Bool) : Prop where
  len : here.length = told.length
  slot : ∀ (j : Nat) (t : SL), l[j]? = some t → 0 ≤ t.gen ∧ t.gen ≤ told.length ∧ (∃ b : Int, t.x = .int .i64 b) ∧ (t.full = true → t.slot = j)
  at_ : ∀ (k : Nat) (p : Int × Int), told[k]? = some p → ∃ (j : Nat) (t : SL), p.1 = j ∧ l[j]? = some t ∧ p.2 ≤ t.gen ∧ here[k]? = some (t.full && decide (t.gen = p.2))
  nodup : ∀ k k' : Nat, ∀ p, told[k]? = some p → told[k']? = some p → k = k'

theorem OInv.start (S : Nat) : OInv (List.replicate S ⟨0, 0, false, .int .i64 0⟩) [] [] where
  len := rfl
  slot := fun j t h => by
    rw [List.getElem?_replicate] at h
    split at h
    · cases h; exact ⟨Int.le_refl _, Int.le_refl _, ⟨0, rfl⟩, fun h => by cases h⟩
    · cases h
  at_ := fun k p h => by simp at h
  nodup := fun k k' p h => by simp at h

section
variable {l : List SL} {told : List (Int × Int)} {here : List Bool}
/-- the handle that Put tells is none that it has told -/
theorem OInv.new (h : OInv l told here) {i : Nat} {s : SL} (hs : l[i]? = some s) (k : Nat) (p : Int × Int) (hp : told[k]? = some p) : p ≠ ((i : Int), s.gen + 1) := by
  rintro rfl
  obtain ⟨j, t, e, ht, hg, _⟩ := h.at_ k _ hp
  simp only at e hg
  obtain rfl : i = j := by omega
  rw [hs] at ht; cases ht
  omega
/-- nothing that is told of the slot that Put takes stands for anything -/
theorem OInv.gone (h : OInv l told here) {i : Nat} {s : SL} (hs : l[i]? = some s) (hf : s.full = false) (k : Nat) (p : Int × Int) (hp : told[k]? = some p) (e1 : p.1 = i) : here[k]? = some false := by
  obtain ⟨j, t, e, ht, hg, hh⟩ := h.at_ k _ hp
  obtain rfl : i = j := by omega
  rw [hs] at ht; cases ht
  rw [hh, hf]; rfl
theorem OInv.put (h : OInv l told here) {i : Nat} {s : SL} (hs : l[i]? = some s) (hf : s.full = false) (b : Int) :
    OInv (l.set i ⟨i, s.gen + 1, true, .int .i64 b⟩) (told ++ [((i : Int), s.gen + 1)]) (here ++ [true]) where
  len := by rw [List.length_append, List.length_append, h.len]; rfl
  slot := fun j t ht => by
    have hi : i < l.length := (List.getElem?_eq_some_iff.1 hs).1
    rw [List.length_append, List.length_singleton]
    by_cases e : i = j
    · subst e
      rw [List.getElem?_set, if_pos rfl, if_pos hi] at ht; cases ht
      obtain ⟨h1, h2, _⟩ := h.slot i s hs
      exact ⟨by show 0 ≤ s.gen + 1; omega, by show s.gen + 1 ≤ _; omega, ⟨b, rfl⟩, fun _ => rfl⟩
    · rw [List.getElem?_set, if_neg e] at ht
      obtain ⟨h1, h2, h3, h4⟩ := h.slot j t ht
      exact ⟨h1, by omega, h3, h4⟩
  at_ := fun k p hp => by
    have hi : i < l.length := (List.getElem?_eq_some_iff.1 hs).1
    by_cases hk : k < told.length
    · rw [List.getElem?_append_left hk] at hp
      obtain ⟨j, t, e, ht, hg, hh⟩ := h.at_ k _ hp
      rw [List.getElem?_append_left (by rw [h.len]; exact hk)]
      by_cases e2 : i = j
      · subst e2
        rw [hs] at ht; cases ht
        refine ⟨i, _, e, by rw [List.getElem?_set, if_pos rfl, if_pos hi], by show p.2 ≤ s.gen + 1; omega, ?_⟩
        rw [hh, hf]
        have hne : ¬ s.gen + 1 = p.2 := by omega
        simp [hne]
      · exact ⟨j, t, e, by rw [List.getElem?_set, if_neg e2]; exact ht, hg, hh⟩
    · have hk2 : k = told.length := by
        have := (List.getElem?_eq_some_iff.1 hp).1
        rw [List.length_append, List.length_singleton] at this; omega
      subst hk2
      rw [List.getElem?_append_right (Nat.le_refl _), Nat.sub_self] at hp
      cases hp
      refine ⟨i, _, rfl, by rw [List.getElem?_set, if_pos rfl, if_pos hi], Int.le_refl _, ?_⟩
      rw [List.getElem?_append_right (by rw [h.len]; exact Nat.le_refl _), h.len, Nat.sub_self]
      simp
  nodup := fun k k' p hp hp' => by
    by_cases hk : k < told.length
    · rw [List.getElem?_append_left hk] at hp
      by_cases hk' : k' < told.length
      · rw [List.getElem?_append_left hk'] at hp'
        exact h.nodup k k' p hp hp'
      · exfalso
        rw [List.getElem?_append_right (by omega)] at hp'
        have : p = ((i : Int), s.gen + 1) := by
          cases hd : k' - told.length with
          | zero => rw [hd] at hp'; cases hp'; rfl
          | succ d => rw [hd] at hp'; simp at hp'
        exact h.new hs k p hp this
    · by_cases hk' : k' < told.length
      · exfalso
        rw [List.getElem?_append_left hk'] at hp'
        rw [List.getElem?_append_right (by omega)] at hp
        have : p = ((i : Int), s.gen + 1) := by
          cases hd : k - told.length with
          | zero => rw [hd] at hp; cases hp; rfl
          | succ d => rw [hd] at hp; simp at hp
        exact h.new hs k' p hp' this
      · have h1 := (List.getElem?_eq_some_iff.1 hp).1
        have h2 := (List.getElem?_eq_some_iff.1 hp').1
        rw [List.length_append, List.length_singleton] at h1 h2
        omega
/-- a thing dropped -/
theorem OInv.drop (h : OInv l told here) {k : Nat} {p : Int × Int} (hp : told[k]? = some p) {j : Nat} {t : SL} (e : p.1 = j) (ht : l[j]? = some t) (hg : t.gen = p.2) (z : Int) :
    OInv (l.set j { t with full := false, x := .int .i64 z }) told (here.set k false) where
  len := by rw [List.length_set]; exact h.len
  slot := fun i u hu => by
    have hj : j < l.length := (List.getElem?_eq_some_iff.1 ht).1
    by_cases e2 : j = i
    · subst e2
      rw [List.getElem?_set, if_pos rfl, if_pos hj] at hu; cases hu
      obtain ⟨h1, h2, _⟩ := h.slot j t ht
      exact ⟨h1, h2, ⟨z, rfl⟩, fun h => by cases h⟩
    · rw [List.getElem?_set, if_neg e2] at hu
      exact h.slot i u hu
  at_ := fun k' p' hp' => by
    have hj : j < l.length := (List.getElem?_eq_some_iff.1 ht).1
    obtain ⟨i, u, e', hu, hg', hh⟩ := h.at_ k' p' hp'
    by_cases e2 : j = i
    · subst e2
      rw [ht] at hu; cases hu
      refine ⟨j, { t with full := false, x := .int .i64 z }, e', by rw [List.getElem?_set, if_pos rfl, if_pos hj], hg', ?_⟩
      by_cases e3 : k = k'
      · subst e3
        rw [List.getElem?_set, if_pos rfl, if_pos (List.getElem?_eq_some_iff.1 hh).1]; rfl
      · rw [List.getElem?_set, if_neg e3, hh]
        have : ¬ t.gen = p'.2 := fun h3 => e3 (h.nodup k k' p hp (by rw [hp']; congr 1; apply Prod.ext <;> omega))
        simp [this]
    · refine ⟨i, u, e', by rw [List.getElem?_set, if_neg e2]; exact hu, hg', ?_⟩
      by_cases e3 : k = k'
      · subst e3
        rw [hp] at hp'; cases hp'
        omega
      · rw [List.getElem?_set, if_neg e3]; exact hh
  nodup := h.nodup
/-- a thing put in another's place -/
theorem OInv.setx (h : OInv l told here) {j : Nat} {t : SL} (ht : l[j]? = some t) (z : Int) : OInv (l.set j { t with x := .int .i64 z }) told here where
  len := h.len
  slot := fun i u hu => by
    have hj : j < l.length := (List.getElem?_eq_some_iff.1 ht).1
    by_cases e2 : j = i
    · subst e2
      rw [List.getElem?_set, if_pos rfl, if_pos hj] at hu; cases hu
      obtain ⟨h1, h2, _, h4⟩ := h.slot j t ht
      exact ⟨h1, h2, ⟨z, rfl⟩, h4⟩
    · rw [List.getElem?_set, if_neg e2] at hu
      exact h.slot i u hu
  at_ := fun k p hp => by
    have hj : j < l.length := (List.getElem?_eq_some_iff.1 ht).1
    obtain ⟨i, u, e', hu, hg', hh⟩ := h.at_ k p hp
    by_cases e2 : j = i
    · subst e2
      rw [ht] at hu; cases hu
      exact ⟨j, { t with x := .int .i64 z }, e', by rw [List.getElem?_set, if_pos rfl, if_pos hj], hg', hh⟩
    · exact ⟨i, u, e', by rw [List.getElem?_set, if_neg e2]; exact hu, hg', hh⟩
  nodup := h.nodup
end
theorem set_same {α : Type} : ∀ (l : List α) (k : Nat) (a : α), l[k]? = some a → l.set k a = l
  | [], k, a, h => by simp at h
  | b :: r, 0, a, h => by simp at h; subst h; rfl
  | b :: r, k + 1, a, h => by rw [List.set_cons_succ, set_same r k a (by simpa using h)]
end Go.Proofs.Ytpnegofmebfcgaa
