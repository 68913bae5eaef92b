/- What a least box has, 23; rows that a call owns, read. -/
import Derived.Test.YtilimgjmiijkiaaA22
import Derived.Test.YtilimgjmiijkiaaA2
namespace Go.Proofs.Ytilimgjmiijkiaa
open Go.RowKit

theorem foldl_min (l : List Int) : ∀ a, (∀ x ∈ l, l.foldl min a ≤ x) ∧ l.foldl min a ≤ a ∧ (l.foldl min a = a ∨ l.foldl min a ∈ l) := by
  induction l with
  | nil => intro a; exact ⟨fun x hx => by (cases hx), Int.le_refl _, .inl rfl⟩
  | cons b r ih =>
    intro a
    obtain ⟨h1, h2, h3⟩ := ih (min a b)
    simp only [List.foldl_cons]
    refine ⟨fun x hx => ?_, by omega, ?_⟩
    · rcases List.mem_cons.1 hx with rfl | hx
      · omega
      · exact h1 x hx
    · rcases h3 with h3 | h3
      · by_cases hab : a ≤ b
        · left; omega
        · right; rw [h3]; exact List.mem_cons.2 (.inl (by omega))
      · right; exact List.mem_cons_of_mem _ h3
theorem foldl_max (l : List Int) : ∀ a, (∀ x ∈ l, x ≤ l.foldl max a) ∧ a ≤ l.foldl max a ∧ (l.foldl max a = a ∨ l.foldl max a ∈ l) := by
  induction l with
  | nil => intro a; exact ⟨fun x hx => by (cases hx), Int.le_refl _, .inl rfl⟩
  | cons b r ih =>
    intro a
    obtain ⟨h1, h2, h3⟩ := ih (max a b)
    simp only [List.foldl_cons]
    refine ⟨fun x hx => ?_, by omega, ?_⟩
    · rcases List.mem_cons.1 hx with rfl | hx
      · omega
      · exact h1 x hx
    · rcases h3 with h3 | h3
      · by_cases hab : b ≤ a
        · left; omega
        · right; rw [h3]; exact List.mem_cons.2 (.inl (by omega))
      · right; exact List.mem_cons_of_mem _ h3
theorem lo_spec' (l : List Int) (h : l ≠ []) : (∀ x ∈ l, lo l ≤ x) ∧ lo l ∈ l := by
  cases l with
  | nil => exact absurd rfl h
  | cons a r =>
    obtain ⟨h1, h2, h3⟩ := foldl_min r a
    refine ⟨fun x hx => ?_, ?_⟩
    · rcases List.mem_cons.1 hx with rfl | hx
      · exact h2
      · exact h1 x hx
    · rcases h3 with h3 | h3
      · exact List.mem_cons.2 (.inl h3)
      · exact List.mem_cons_of_mem _ h3
theorem hi_spec' (l : List Int) (h : l ≠ []) : (∀ x ∈ l, x ≤ hi l) ∧ hi l ∈ l := by
  cases l with
  | nil => exact absurd rfl h
  | cons a r =>
    obtain ⟨h1, h2, h3⟩ := foldl_max r a
    refine ⟨fun x hx => ?_, ?_⟩
    · rcases List.mem_cons.1 hx with rfl | hx
      · exact h2
      · exact h1 x hx
    · rcases h3 with h3 | h3
      · exact List.mem_cons.2 (.inl h3)
      · exact List.mem_cons_of_mem _ h3

section
variable {xs : List (Int × Int)}
theorem ne_map (h : xs ≠ []) (f : Int × Int → Int) : xs.map f ≠ [] := fun h0 => h (List.map_eq_nil_iff.1 h0)
theorem box_has (h : xs ≠ []) {p : Int × Int} (hp : p ∈ xs) : loX xs ≤ p.1 ∧ p.1 ≤ hiX xs ∧ loY xs ≤ p.2 ∧ p.2 ≤ hiY xs :=
  ⟨(lo_spec' _ (ne_map h _)).1 _ (List.mem_map.2 ⟨p, hp, rfl⟩), (hi_spec' _ (ne_map h _)).1 _ (List.mem_map.2 ⟨p, hp, rfl⟩), (lo_spec' _ (ne_map h _)).1 _ (List.mem_map.2 ⟨p, hp, rfl⟩), (hi_spec' _ (ne_map h _)).1 _ (List.mem_map.2 ⟨p, hp, rfl⟩)⟩
theorem box_sides (h : xs ≠ []) : (xs.any fun p => p.1 == loX xs) = true ∧ (xs.any fun p => p.1 == hiX xs) = true ∧ (xs.any fun p => p.2 == loY xs) = true ∧ (xs.any fun p => p.2 == hiY xs) = true := by
  refine ⟨?_, ?_, ?_, ?_⟩
  · obtain ⟨p, hp, e⟩ := List.mem_map.1 (lo_spec' _ (ne_map h (·.1))).2
    exact List.any_eq_true.2 ⟨p, hp, beq_iff_eq.2 e⟩
  · obtain ⟨p, hp, e⟩ := List.mem_map.1 (hi_spec' _ (ne_map h (·.1))).2
    exact List.any_eq_true.2 ⟨p, hp, beq_iff_eq.2 e⟩
  · obtain ⟨p, hp, e⟩ := List.mem_map.1 (lo_spec' _ (ne_map h (·.2))).2
    exact List.any_eq_true.2 ⟨p, hp, beq_iff_eq.2 e⟩
  · obtain ⟨p, hp, e⟩ := List.mem_map.1 (hi_spec' _ (ne_map h (·.2))).2
    exact List.any_eq_true.2 ⟨p, hp, beq_iff_eq.2 e⟩
theorem box_more (h : xs ≠ []) : loX (xs ++ [(loX xs, hiY xs)]) = loX xs ∧ loY (xs ++ [(loX xs, hiY xs)]) = loY xs ∧ hiX (xs ++ [(loX xs, hiY xs)]) = hiX xs ∧ hiY (xs ++ [(loX xs, hiY xs)]) = hiY xs := by
  obtain ⟨p, hp⟩ := List.exists_mem_of_ne_nil xs h
  obtain ⟨a, b, c, d⟩ := box_has h hp
  have e1 : loX (xs ++ [(loX xs, hiY xs)]) = min (loX xs) (loX xs) := by unfold loX; rw [List.map_append]; exact lo_snoc _ _ (ne_map h _)
  have e2 : loY (xs ++ [(loX xs, hiY xs)]) = min (loY xs) (hiY xs) := by unfold loY; rw [List.map_append]; exact lo_snoc _ _ (ne_map h _)
  have e3 : hiX (xs ++ [(loX xs, hiY xs)]) = max (hiX xs) (loX xs) := by unfold hiX; rw [List.map_append]; exact hi_snoc _ _ (ne_map h _)
  have e4 : hiY (xs ++ [(loX xs, hiY xs)]) = max (hiY xs) (hiY xs) := by unfold hiY; rw [List.map_append]; exact hi_snoc _ _ (ne_map h _)
  rw [e1, e2, e3, e4]
  omega
end

theorem any_take (xs : List (Int × Int)) (k : Nat) (p : Int × Int) (f : Int × Int → Bool) (h : xs[k]? = some p) : (xs.take (k + 1)).any f = ((xs.take k).any f || f p) := by
  rw [List.take_add_one, h]; simp

theorem own_below {w w' : World} {base size n : Nat} {e : TypeId} {v : Value} {xs : List Value} (h : w.ownsRow base e size v n xs) (hb : Below w.heap.size w w') : w'.ownsRow base e size v n xs := by
  obtain ⟨hl, h | ⟨g, cap, cur, hv, hbase, hg, r⟩⟩ := h
  · exact ⟨hl, .inl h⟩
  · have hlt : g < w.heap.size := by
      rcases Nat.lt_or_ge g w.heap.size with hlt | hge
      · exact hlt
      · rw [Array.getElem?_eq_none hge] at hg; cases hg
    exact ⟨hl, .inr ⟨g, cap, cur, hv, hbase, (hb.block g hlt).trans hg, r⟩⟩

theorem two_one (a b : Int) : ∀ u ∈ [Value.int .i16 a, Value.int .i16 b], u.oneCell' = true := by
  intro u hu; simp at hu; rcases hu with rfl | rfl <;> rfl

theorem read_of_own {w : World} {base g cap n : Nat} {xs : List (Int × Int)} (h : w.ownsRow base 24 2 (.slice (some ⟨g, 0, none⟩) n cap) n (flat xs)) (hn : 0 < n) (hl : xs.length = n)
    (hbd : ∀ p ∈ xs, -32768 ≤ p.1 ∧ p.1 ≤ 32767 ∧ -32768 ≤ p.2 ∧ p.2 ≤ 32767) : PRd w w.heap.size (some ⟨g, 0, none⟩) n xs ∧ n ≤ cap := by
  obtain ⟨g', cap', hv, _, hlt⟩ := h.form hn
  have hg : g' = g := by injection hv with e; injection e with e; injection e with e; exact e.symm
  subst hg
  have hc := h.cells (g := g') rfl
  refine ⟨⟨hl, hbd, fun _ => ⟨g', 0, rfl, hlt, fun i p hp => ?_⟩⟩, ?_⟩
  · obtain ⟨e0, e1⟩ := flat_get xs i p hp
    have c0 := hc _ _ e0
    have c1 := hc _ _ e1
    rw [add_off] at c0 c1
    exact ⟨c0, c1⟩
  · rcases h.2 with ⟨h0, _⟩ | ⟨_, _, cur, hv, _, _, hn', _⟩
    · cases h0
    · injection hv with _ _ e3; subst e3; exact hn'
end Go.Proofs.Ytilimgjmiijkiaa
