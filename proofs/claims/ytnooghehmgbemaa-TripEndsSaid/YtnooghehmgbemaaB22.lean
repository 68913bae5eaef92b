/- Trip: what calls do to lists of trips, in plain Lean: how a trip stands; one trip turned. -/
import Derived.Test.YtnooghehmgbemaaB21
namespace Go.Proofs.Ytnooghehmgbemaa
open Go.RowKit
set_option linter.unusedVariables false
set_option linter.unusedSimpArgs false

/-- how a trip stands at a clock -/
inductive Shape (c : Int) : Int → List Int → Prop where
  | s1 {a : Int} (h0 : 0 ≤ a) (h1 : a ≤ c) : Shape c 1 [-1, a, -1, -1, -1, -1]
  | s15 {a e : Int} (h0 : 0 ≤ a) (h1 : a ≤ e) (h2 : e ≤ c) : Shape c 5 [-1, a, -1, -1, -1, e]
  | s2 {a b : Int} (h0 : 0 ≤ a) (h1 : a ≤ b) (h2 : b ≤ c) : Shape c 2 [-1, a, b, -1, -1, -1]
  | s25 {a b e : Int} (h0 : 0 ≤ a) (h1 : a ≤ b) (h2 : b ≤ e) (h3 : e ≤ c) : Shape c 5 [-1, a, b, -1, -1, e]
  | s3 {a b d : Int} (h0 : 0 ≤ a) (h1 : a ≤ b) (h2 : b ≤ d) (h3 : d ≤ c) : Shape c 3 [-1, a, b, d, -1, -1]
  | s4 {a b d e : Int} (h0 : 0 ≤ a) (h1 : a ≤ b) (h2 : b ≤ d) (h3 : d ≤ e) (h4 : e ≤ c) : Shape c 4 [-1, a, b, d, e, -1]
theorem Shape.mono {c c' s : Int} {ts : List Int} (h : Shape c s ts) (hc : c ≤ c') : Shape c' s ts := by
  cases h with
  | s1 h0 h1 => exact .s1 h0 (by omega)
  | s15 h0 h1 h2 => exact .s15 h0 h1 (by omega)
  | s2 h0 h1 h2 => exact .s2 h0 h1 (by omega)
  | s25 h0 h1 h2 h3 => exact .s25 h0 h1 h2 (by omega)
  | s3 h0 h1 h2 h3 => exact .s3 h0 h1 h2 (by omega)
  | s4 h0 h1 h2 h3 h4 => exact .s4 h0 h1 h2 h3 (by omega)
theorem fol_cases {was s : Int} (h : fol was s = true) : (was = 1 ∧ s = 2) ∨ (was = 1 ∧ s = 5) ∨ (was = 2 ∧ s = 3) ∨ (was = 2 ∧ s = 5) ∨ (was = 3 ∧ s = 4) := by
  unfold fol at h
  simp only [Bool.or_eq_true, Bool.and_eq_true, beq_iff_eq] at h
  omega
theorem Shape.turn {c tick s s' : Int} {ts : List Int} (h : Shape c s ts) (hf : fol s s' = true) (hc : c ≤ tick) :
    Shape tick s' (ts.set s'.toNat tick) ∧ s < s' ∧ ∀ j : Nat, j < 6 → (ts.set s'.toNat tick)[j]? = ts[j]? ∨ (ts[j]? = some (-1) ∧ (j : Int) = s') := by
  rcases fol_cases hf with ⟨rfl, rfl⟩ | ⟨rfl, rfl⟩ | ⟨rfl, rfl⟩ | ⟨rfl, rfl⟩ | ⟨rfl, rfl⟩
  · cases h with
    | s1 h0 h1 =>
      refine ⟨.s2 h0 (by omega) (Int.le_refl _), by decide, fun j hj => ?_⟩
      rw [List.getElem?_set]
      by_cases e : j = 2
      · subst e; exact .inr ⟨rfl, rfl⟩
      · rw [if_neg (by simpa using Ne.symm e)]; exact .inl rfl
  · cases h with
    | s1 h0 h1 =>
      refine ⟨.s15 h0 (by omega) (Int.le_refl _), by decide, fun j hj => ?_⟩
      rw [List.getElem?_set]
      by_cases e : j = 5
      · subst e; exact .inr ⟨rfl, rfl⟩
      · rw [if_neg (by simpa using Ne.symm e)]; exact .inl rfl
  · cases h with
    | s2 h0 h1 h2 =>
      refine ⟨.s3 h0 h1 (by omega) (Int.le_refl _), by decide, fun j hj => ?_⟩
      rw [List.getElem?_set]
      by_cases e : j = 3
      · subst e; exact .inr ⟨rfl, rfl⟩
      · rw [if_neg (by simpa using Ne.symm e)]; exact .inl rfl
  · cases h with
    | s2 h0 h1 h2 =>
      refine ⟨.s25 h0 h1 (by omega) (Int.le_refl _), by decide, fun j hj => ?_⟩
      rw [List.getElem?_set]
      by_cases e : j = 5
      · subst e; exact .inr ⟨rfl, rfl⟩
      · rw [if_neg (by simpa using Ne.symm e)]; exact .inl rfl
  · cases h with
    | s3 h0 h1 h2 h3 =>
      refine ⟨.s4 h0 h1 h2 (by omega) (Int.le_refl _), by decide, fun j hj => ?_⟩
      rw [List.getElem?_set]
      by_cases e : j = 4
      · subst e; exact .inr ⟨rfl, rfl⟩
      · rw [if_neg (by simpa using Ne.symm e)]; exact .inl rfl
def St.stands (q : St) : Prop := ∀ t ∈ q.l, Shape q.clock t.s t.ts
/-- the second list is the first one, but for one trip at m that has come further, or a new one behind (m = the first one's length) -/
structure Grew (was now : List Tr) (m : Nat) : Prop where
  le : m ≤ was.length
  len : now.length = was.length + (if m = was.length then 1 else 0)
  same : ∀ i, i < was.length → i ≠ m → now[i]? = was[i]?
  turned : ∀ a, was[m]? = some a → ∃ b, now[m]? = some b ∧ a.k = b.k ∧ a.on ∧ a.s < b.s ∧ ∀ j : Nat, j < 6 → b.ts[j]? = a.ts[j]? ∨ (a.ts[j]? = some (-1) ∧ (j : Int) = b.s)
theorem grew_push (l : List Tr) (t : Tr) : Grew l (l ++ [t]) l.length where
  le := Nat.le_refl _
  len := by simp
  same := fun i hi _ => by rw [List.getElem?_append_left hi]
  turned := fun a ha => by have := (List.getElem?_eq_some_iff.1 ha).1; omega
theorem key_at {q : St} (hq : q.ok) {i j : Nat} {a b : Tr} (ha : q.l[i]? = some a) (hb : q.l[j]? = some b) (e : a.k = b.k) : i = j := by
  have hn := hq.dk
  rw [List.pairwise_iff_getElem] at hn
  obtain ⟨hi, ha'⟩ := List.getElem?_eq_some_iff.1 ha
  obtain ⟨hj, hb'⟩ := List.getElem?_eq_some_iff.1 hb
  rcases Nat.lt_trichotomy i j with hlt | he | hlt
  · exact (hn i j hi hj hlt (by rw [ha', hb', e])).elim
  · exact he
  · exact (hn j i hj hi hlt (by rw [ha', hb', e])).elim
theorem grew_turn {q : St} (hq : q.ok) (hs : q.stands) {m : Nat} {t : Tr} (hm : q.l[m]? = some t) {k : List Value} (hk : t.k = k) {s tick : Int} (hf : fol t.s s = true) (hc : q.clock ≤ tick) : Grew q.l (q.l.map (turn k s tick)) m where
  le := Nat.le_of_lt (List.getElem?_eq_some_iff.1 hm).1
  len := by rw [if_neg (Nat.ne_of_lt (List.getElem?_eq_some_iff.1 hm).1)]; simp
  same := fun i hi hne => by
    rw [List.getElem?_map, List.getElem?_eq_getElem hi, Option.map_some, turn_off]
    intro e
    exact hne (key_at hq (List.getElem?_eq_getElem hi) hm (e.trans hk.symm))
  turned := fun a ha => by
    rw [hm] at ha; cases ha
    have ⟨_, h2, h3⟩ := (hs t (List.mem_of_getElem? hm)).turn hf hc
    have ⟨hw, _⟩ := fol_on hf
    refine ⟨turn k s tick t, by rw [List.getElem?_map, hm]; rfl, (turn_k ..).symm, by unfold Tr.on; omega, ?_, ?_⟩
    · rw [turn_at hk]; exact h2
    · rw [turn_at hk]; exact h3
theorem stands_turn {q : St} (hq : q.ok) (hs : q.stands) {t : Tr} (ht : t ∈ q.l) {k : List Value} (hk : t.k = k) {s tick : Int} (hf : fol t.s s = true) (hc : q.clock ≤ tick) : St.stands ⟨tick, q.l.map (turn k s tick)⟩ := by
  intro u' hu'
  obtain ⟨u, hu, rfl⟩ := List.mem_map.1 hu'
  show Shape tick _ _
  by_cases e : u.k = k
  · have := hq.uk u hu t ht (e.trans hk.symm)
    subst this
    rw [turn_at e]; exact ((hs u hu).turn hf hc).1
  · rw [turn_off e]; exact (hs u hu).mono hc
theorem stands_push {q : St} (hs : q.stands) {k : List Value} {tick : Int} (h0 : 0 ≤ tick) (hc : q.clock ≤ tick) : St.stands ⟨tick, q.l ++ [newTr k tick]⟩ := by
  intro u hu
  rcases List.mem_append.1 hu with h | h
  · exact (hs u h).mono hc
  · rw [List.mem_singleton.1 h]; exact .s1 h0 (Int.le_refl _)
/-- one step: what it answers, and what has become of the trips -/
structure Stepped (q : St) (tick : Int) (r : Int × St) : Prop where
  stands : r.2.stands
  fine : r.1 = 0 → q.clock ≤ tick ∧ r.2.clock = tick ∧ ∃ m, Grew q.l r.2.l m
  not : r.1 ≠ 0 → r.2 = q
theorem stepped_same {q : St} (hs : q.stands) (tick : Int) {n : Int} (hn : n ≠ 0) : Stepped q tick (n, q) := ⟨hs, fun h => (hn h).elim, fun _ => rfl⟩
theorem stepped_assign {q : St} (hs : q.stands) (tick : Int) (k : List Value) : Stepped q tick (q.assign tick k) := by
  classical
  unfold St.assign
  by_cases he : atE tick q.clock = 0
  · rw [if_neg (by simpa using he)]
    obtain ⟨t0, t1, t2⟩ := atE_zero he
    split
    · exact stepped_same hs tick (by decide)
    · exact ⟨stands_push hs t0 t2, fun _ => ⟨t2, rfl, _, grew_push _ _⟩, fun h => (h rfl).elim⟩
  · rw [if_pos he]; exact stepped_same hs tick he
theorem stepped_go {q : St} (hq : q.ok) (hs : q.stands) (tick s : Int) (k : List Value) : Stepped q tick (q.go tick k s) := by
  unfold St.go
  split
  · exact stepped_same hs tick (by decide)
  by_cases he : atE tick q.clock = 0
  · rw [if_neg (by simpa using he)]
    obtain ⟨t0, t1, t2⟩ := atE_zero he
    cases hf : q.find k with
    | none => exact stepped_same hs tick (by decide)
    | some t =>
      obtain ⟨ht, hkt⟩ := find_some hf
      show Stepped q tick (if fol t.s s = true then (0, ⟨tick, q.l.map (turn k s tick)⟩) else (240, q))
      split
      · next hfo =>
        obtain ⟨m, hm⟩ := List.mem_iff_getElem?.1 ht
        exact ⟨stands_turn hq hs ht hkt hfo t2, fun _ => ⟨t2, rfl, m, grew_turn hq hs hm hkt hfo t2⟩, fun h => (h rfl).elim⟩
      · exact stepped_same hs tick (by decide)
  · rw [if_pos he]; exact stepped_same hs tick he
theorem Stepped.len {q : St} {tick : Int} {r : Int × St} (h : Stepped q tick r) : r.2.l.length ≤ q.l.length + 1 := by
  by_cases e : r.1 = 0
  · obtain ⟨_, _, m, g⟩ := h.fine e
    have := g.len
    split at this <;> omega
  · rw [h.not e]; omega
theorem stands_new : St.stands ⟨0, []⟩ := fun t ht => by cases ht
end Go.Proofs.Ytnooghehmgbemaa
