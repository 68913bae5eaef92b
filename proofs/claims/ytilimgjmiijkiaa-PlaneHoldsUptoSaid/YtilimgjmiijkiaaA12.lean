/- Contracts of plane and of the reference, 12: the winds of every two words. -/
import Derived.Test.YtilimgjmiijkiaaA11
namespace Go.Proofs.Ytilimgjmiijkiaa
open Go.RowKit Ieee

theorem si_pos (s : Bool) (r : Nat) : (0 < si s r ↔ s = false ∧ 0 < r) ∧ (si s r < 0 ↔ s = true ∧ 0 < r) ∧ (si s r = 0 ↔ r = 0) := by
  unfold si; cases s <;> simp <;> omega

theorem ord0 (s : Bool) (r : Nat) (hr : r ≤ INF) : double.order (double.word s r) 0 = some (compare (si s r) 0) := by
  have h := order_w s false r 0 hr (by unfold INF; omega)
  rw [word_false] at h
  exact h

theorem ordMax (r : Nat) (hr : r ≤ INF) : (double.order r 9218868437227405311 == some .gt) = decide (r = INF) := by
  have h := order_w false false r 9218868437227405311 hr (by unfold INF; omega)
  rw [word_false, word_false] at h
  rw [h, gtB]
  unfold si INF at *
  simp only [Bool.false_eq_true, if_false]
  by_cases e : r = 9218868437227405312
  · rw [decide_eq_true (by omega), decide_eq_true e]
  · rw [decide_eq_false (by omega), decide_eq_false e]

theorem ordSelf (s : Bool) (r : Nat) (hr : r < 9223372036854775808) : (double.order (double.word s r) (double.word s r) != some .eq) = decide (INF < r) := by
  by_cases h : INF < r
  · rw [order_nan_left s r _ h hr, decide_eq_true h]; rfl
  · have e := order_w s s r r (by omega) (by omega)
    rw [e, decide_eq_false h, cmp_eq rfl]; rfl

theorem secT_eq (s t : Bool) (r q : Nat) (hr : r < INF) (hq : q < INF) (h0 : ¬ (r = 0 ∧ q = 0)) :
    secT (decide (dbl q ≤ r)) (decide (dbl r ≤ q)) (decide (0 < si s r)) (decide (0 < si t q)) (decide (si s r < 0)) = sec s t r q ∧
    rsecT (decide (dbl q ≤ r)) (decide (dbl r ≤ q)) (decide (0 < si s r)) (decide (0 < si t q)) (decide (si s r < 0)) = sec s t r q := by
  unfold sec
  rw [if_neg (by omega)]
  obtain ⟨a1, a2, _⟩ := si_pos s r
  obtain ⟨b1, b2, _⟩ := si_pos t q
  have e1 : decide (0 < si s r) = (!s && decide (0 < r)) := by rw [Bool.eq_iff_iff]; simp [a1]
  have e2 : decide (0 < si t q) = (!t && decide (0 < q)) := by rw [Bool.eq_iff_iff]; simp [b1]
  have e3 : decide (si s r < 0) = (s && decide (0 < r)) := by rw [Bool.eq_iff_iff]; simp [a2]
  rw [e1, e2, e3]
  have dz : ∀ n, dbl n = 0 → n = 0 := fun n h => by rcases dbl_cases n with ⟨a, b⟩ | ⟨a, b, c⟩ | ⟨a, b, c⟩ <;> (try rw [inf_eq] at *) <;> omega
  have d0 : dbl 0 = 0 := by decide
  unfold secT rsecT
  by_cases h1 : dbl q ≤ r
  · have hr0 : 0 < r := by
      rcases Nat.eq_zero_or_pos r with h | h
      · have := dz q (by omega); omega
      · exact h
    rw [decide_eq_true h1, decide_eq_true hr0]
    cases s <;> simp [h1]
  · rw [decide_eq_false h1]
    have hq0 : 0 < q := by
      rcases Nat.eq_zero_or_pos q with h | h
      · subst h; omega
      · exact h
    by_cases h2 : dbl r ≤ q
    · rw [decide_eq_true h2, decide_eq_true hq0]
      cases t <;> simp [h1, h2]
    · have hr0 : 0 < r := by
        rcases Nat.eq_zero_or_pos r with h | h
        · subst h; omega
        · exact h
      rw [decide_eq_false h2, decide_eq_true hq0, decide_eq_true hr0]
      cases s <;> cases t <;> simp [h1, h2]

theorem sector_any (s t : Bool) (r q : Nat) (w : World) (hr : r < 9223372036854775808) (hq : q < 9223372036854775808) :
    Calls Try.prog 39 #[.complex .f64 (double.word s r) (double.word t q)] w (Keeps (.int .i64 (sec s t r q)) w) := by
  have hax := fun w => abs_any s r w hr
  have hay := fun w => abs_any t q w hq
  have wr : ∀ r : Nat, INF < r → r < 9223372036854775808 → (double.order r 9218868437227405311 == some .gt) = false := fun r h h' => by
    have := order_nan_left false r 9218868437227405311 h h'
    rw [word_false] at this
    rw [this]; rfl
  have mx : ∀ r : Nat, r < 9223372036854775808 → (double.order r 9218868437227405311 == some .gt) = decide (r = INF) := fun r h' => by
    by_cases h : INF < r
    · rw [wr r h h', decide_eq_false (by omega)]
    · exact ordMax r (by omega)
  have none : (INF ≤ r ∨ INF ≤ q ∨ (r = 0 ∧ q = 0)) → sec s t r q = -1 := fun h => by unfold sec; rw [if_pos h]
  by_cases h1 : r = INF
  · rw [none (by omega)]
    exact sector_none _ _ _ _ w hax hay (.inl (by show (double.order r _ == _) = _; rw [mx r hr, decide_eq_true h1]))
  have f1 : (FloatKind.f64.format.order r 9218868437227405311 == some .gt) = false := by show (double.order r _ == _) = _; rw [mx r hr, decide_eq_false h1]
  by_cases h2 : q = INF
  · rw [none (by omega)]
    exact sector_none _ _ _ _ w hax hay (.inr (.inl ⟨f1, by show (double.order q _ == _) = _; rw [mx q hq, decide_eq_true h2]⟩))
  have f2 : (FloatKind.f64.format.order q 9218868437227405311 == some .gt) = false := by show (double.order q _ == _) = _; rw [mx q hq, decide_eq_false h2]
  by_cases h3 : INF < r
  · rw [none (by omega)]
    exact sector_none _ _ _ _ w hax hay (.inr (.inr (.inl ⟨f1, f2, by show (double.order _ _ != _) = _; rw [ordSelf s r hr, decide_eq_true h3]⟩)))
  have f3 : (FloatKind.f64.format.order (double.word s r) (double.word s r) != some .eq) = false := by show (double.order _ _ != _) = _; rw [ordSelf s r hr, decide_eq_false h3]
  by_cases h4 : INF < q
  · rw [none (by omega)]
    exact sector_none _ _ _ _ w hax hay (.inr (.inr (.inr (.inl ⟨f1, f2, f3, by show (double.order _ _ != _) = _; rw [ordSelf t q hq, decide_eq_true h4]⟩))))
  have f4 : (FloatKind.f64.format.order (double.word t q) (double.word t q) != some .eq) = false := by show (double.order _ _ != _) = _; rw [ordSelf t q hq, decide_eq_false h4]
  have f5 : (FloatKind.f64.format.order (double.word s r) 0 == some .eq && FloatKind.f64.format.order (double.word t q) 0 == some .eq) = (decide (r = 0) && decide (q = 0)) := by
    show (double.order _ _ == _ && double.order _ _ == _) = _
    rw [ord0 s r (by omega), ord0 t q (by omega), eqB, eqB, decide_eq_decide.2 (si_pos s r).2.2, decide_eq_decide.2 (si_pos t q).2.2]
  by_cases h5 : r = 0 ∧ q = 0
  · rw [none (by omega)]
    exact sector_none _ _ _ _ w hax hay (.inr (.inr (.inr (.inr ⟨f1, f2, f3, f4, by rw [f5, decide_eq_true h5.1, decide_eq_true h5.2]; rfl⟩))))
  have hrI : r < INF := by omega
  have hqI : q < INF := by omega
  have lt0 : ∀ (s : Bool) (r : Nat), r < INF → (FloatKind.f64.format.order (double.word s r) 0 == some .lt) = decide (si s r < 0) := fun s r h => by
    show (double.order _ _ == _) = _
    rw [ord0 s r (by omega), ltB]
  have gt0 : ∀ (s : Bool) (r : Nat), r < INF → (FloatKind.f64.format.order (double.word s r) 0 == some .gt) = decide (0 < si s r) := fun s r h => by
    show (double.order _ _ == _) = _
    rw [ord0 s r (by omega), gtB]
  have le2 : ∀ (r q : Nat), r < INF → (FloatKind.f64.format.order (dbl q) r == some .lt || FloatKind.f64.format.order (dbl q) r == some .eq) = decide (dbl q ≤ r) := fun r q h => by
    have e := order_w false false (dbl q) r (dbl_le q) (by omega)
    rw [word_false, word_false] at e
    show (double.order _ _ == _ || double.order _ _ == _) = _
    rw [e, leB]
    unfold si
    simp only [Bool.false_eq_true, if_false]
    exact decide_eq_decide.2 (by omega)
  have m2 : ∀ r : Nat, r < INF → floatBits .mul .f64 4611686018427387904 r = some (dbl r) := fun r h => by
    have e := mul_two false r (by omega)
    rw [word_false, word_false] at e
    exact e
  have key := sector_some (double.word s r) (double.word t q) r q (dbl r) (dbl q) _ _ _ _ _ w hax hay f1 f2 f3 f4
    (by rw [f5]; by_cases h : r = 0 <;> simp [h]; omega) (m2 r hrI) (m2 q hqI) (le2 r q hrI) (le2 q r hqI) (gt0 s r hrI) (gt0 t q hqI) (lt0 s r hrI)
  rw [(secT_eq s t r q hrI hqI h5).1] at key
  exact key

theorem sub_self_fin (s : Bool) (r : Nat) (hr : r < INF) : double.sub (double.word s r) (double.word s r) = some 0 := by
  have h := read_word_rv s r (by rw [← inf_eq]; exact hr)
  obtain ⟨m, k, hm, _⟩ := h
  unfold Format.sub
  rw [hm]
  simp only [Datum.opposite, Datum.sum, Option.map_some, Format.write, Int.min_self, Int.sub_self, Int.toNat_zero, signed_eq, Int.pow_zero, Int.mul_one]
  have e : si s m + si (!s) m = 0 := by unfold si; cases s <;> simp <;> omega
  rw [e]
  simp [Format.nearest, Format.word]

theorem sub_self_none (s : Bool) (r : Nat) (h : INF ≤ r) (hr : r < 9223372036854775808) : double.sub (double.word s r) (double.word s r) = none := by
  unfold Format.sub
  rcases Nat.eq_or_lt_of_le h with e | e
  · rw [← e, inf_eq, read_word_inf]
    cases s <;> rfl
  · rw [read_word_nan s r e hr]; rfl

theorem rsector_any (s t : Bool) (r q : Nat) (w : World) (hr : r < 9223372036854775808) (hq : q < 9223372036854775808) :
    Calls Try.prog 40 #[.float .f64 (double.word s r), .float .f64 (double.word t q)] w (Gives (.int .i64 (sec s t r q)) w) := by
  have none : (INF ≤ r ∨ INF ≤ q ∨ (r = 0 ∧ q = 0)) → sec s t r q = -1 := fun h => by unfold sec; rw [if_pos h]
  by_cases h1 : INF ≤ r
  · rw [none (by omega)]
    exact rsector_n1 _ _ w _ (fun w => run_sub_none Try.prog 42 _ _ (sub_self_none s r h1 hr) w) (fun w => cut_nan _ _ _)
  have x0 := fun w => run_float_arith (P := Try.prog) w .sub 42 .f64 _ _ 0 (sub_self_fin s r (by omega))
  have z0 : (FloatKind.f64.format.order 0 0 != some .eq) = false := by decide +kernel
  by_cases h2 : INF ≤ q
  · rw [none (by omega)]
    exact rsector_n2 _ _ w _ x0 z0 (fun w => run_sub_none Try.prog 42 _ _ (sub_self_none t q h2 hq) w) (fun w => cut_nan _ _ _)
  have y0 := fun w => run_float_arith (P := Try.prog) w .sub 42 .f64 _ _ 0 (sub_self_fin t q (by omega))
  have hrI : r < INF := by omega
  have hqI : q < INF := by omega
  have eq0 : ∀ (s : Bool) (r : Nat), r < INF → (FloatKind.f64.format.order (double.word s r) 0 == some .eq) = decide (r = 0) := fun s r h => by
    show (double.order _ _ == _) = _
    rw [ord0 s r (by omega), eqB, decide_eq_decide.2 (si_pos s r).2.2]
  by_cases h5 : r = 0 ∧ q = 0
  · rw [none (by omega)]
    exact rsector_n3 _ _ w x0 z0 y0 (by rw [eq0 s r hrI, decide_eq_true h5.1]) (by rw [eq0 t q hqI, decide_eq_true h5.2])
  have lt0 : ∀ (s : Bool) (r : Nat), r < INF → (FloatKind.f64.format.order (double.word s r) 0 == some .lt) = decide (si s r < 0) := fun s r h => by
    show (double.order _ _ == _) = _
    rw [ord0 s r (by omega), ltB]
  have gt0 : ∀ (s : Bool) (r : Nat), r < INF → (FloatKind.f64.format.order (double.word s r) 0 == some .gt) = decide (0 < si s r) := fun s r h => by
    show (double.order _ _ == _) = _
    rw [ord0 s r (by omega), gtB]
  -- the size of a word: its sign struck where it is below nought
  have ab : ∀ (s : Bool) (r : Nat), r < 9223372036854775808 → (if decide (si s r < 0) = true then Op.negFloat .f64 (double.word s r) else double.word s r) = double.word (s && decide (r = 0)) r := fun s r h => by
    by_cases hs : si s r < 0
    · obtain ⟨e1, e2⟩ := (si_pos s r).2.1.1 hs
      rw [if_pos (by rw [decide_eq_true hs]), neg_word s r h, e1, decide_eq_false (by omega)]; rfl
    · rw [if_neg (by rw [decide_eq_false hs]; decide)]
      cases s
      · rfl
      · have : r = 0 := by
          rcases Nat.eq_zero_or_pos r with h' | h'
          · exact h'
          · exact absurd ((si_pos true r).2.1.2 ⟨rfl, h'⟩) hs
        rw [decide_eq_true this]; rfl
  have si0 : ∀ (s : Bool) (r : Nat), si (s && decide (r = 0)) r = r := fun s r => by
    unfold si
    cases s
    · simp
    · by_cases h : r = 0
      · simp [h]
      · simp [h]
  have si1 : ∀ (s : Bool) (r : Nat), si (s && decide (r = 0)) (dbl r) = dbl r := fun s r => by
    unfold si
    cases s
    · simp
    · by_cases h : r = 0
      · subst h; decide
      · simp [h]
  have le2 : ∀ (s t : Bool) (r q : Nat), r < INF → (FloatKind.f64.format.order (double.word (t && decide (q = 0)) (dbl q)) (double.word (s && decide (r = 0)) r) == some .lt || FloatKind.f64.format.order (double.word (t && decide (q = 0)) (dbl q)) (double.word (s && decide (r = 0)) r) == some .eq) = decide (dbl q ≤ r) := fun s t r q h => by
    have e := order_w (t && decide (q = 0)) (s && decide (r = 0)) (dbl q) r (dbl_le q) (by omega)
    show (double.order _ _ == _ || double.order _ _ == _) = _
    rw [e, leB, si0, si1]
    exact decide_eq_decide.2 (by omega)
  have key := rsector_some (double.word s r) (double.word t q) _ _ _ _ _ _ _ _ _ _ _ _ w x0 z0 y0 (eq0 s r hrI) (eq0 t q hqI)
    (by by_cases h : r = 0
        · exact .inr (decide_eq_false (by omega))
        · exact .inl (decide_eq_false h))
    (lt0 s r hrI) (lt0 t q hqI) (ab s r hr) (ab t q hq) (mul_two _ r (by omega)) (mul_two _ q (by omega)) (le2 s t r q hrI) (le2 t s q r hqI) (gt0 s r hrI) (gt0 t q hqI)
  rw [(secT_eq s t r q hrI hqI h5).2] at key
  exact key
end Go.Proofs.Ytilimgjmiijkiaa
