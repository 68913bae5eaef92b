/- Contracts of plane and of the reference, 10: winds. -/
import Derived.Test.YtilimgjmiijkiaaA6
import Derived.Lib.Hide
namespace Go.Proofs.Ytilimgjmiijkiaa
open Go.RowKit Ieee
attribute [local go_sem] BW.cell BW.frozen

theorem ltB (u v : Int) : (some (compare u v) == some Ordering.lt) = decide (u < v) := by
  rcases Int.lt_trichotomy u v with a | a | a
  · rw [cmp_lt a, decide_eq_true a]; rfl
  · rw [cmp_eq a, decide_eq_false (by omega)]; rfl
  · rw [cmp_gt a, decide_eq_false (by omega)]; rfl
theorem gtB (u v : Int) : (some (compare u v) == some Ordering.gt) = decide (v < u) := by
  rcases Int.lt_trichotomy u v with a | a | a
  · rw [cmp_lt a, decide_eq_false (by omega)]; rfl
  · rw [cmp_eq a, decide_eq_false (by omega)]; rfl
  · rw [cmp_gt a, decide_eq_true a]; rfl
theorem eqB (u v : Int) : (some (compare u v) == some Ordering.eq) = decide (u = v) := by
  rcases Int.lt_trichotomy u v with a | a | a
  · rw [cmp_lt a, decide_eq_false (by omega)]; rfl
  · rw [cmp_eq a, decide_eq_true a]; rfl
  · rw [cmp_gt a, decide_eq_false (by omega)]; rfl
theorem leB (u v : Int) : (some (compare u v) == some Ordering.lt || some (compare u v) == some Ordering.eq) = decide (u ≤ v) := by
  rcases Int.lt_trichotomy u v with a | a | a
  · rw [cmp_lt a, decide_eq_true (by omega)]; rfl
  · rw [cmp_eq a, decide_eq_true (by omega)]; rfl
  · rw [cmp_gt a, decide_eq_false (by omega)]; rfl

/-- what Sector answers behind its first test, by its later tests -/
def secT (p q gx gy lx : Bool) : Int := if p then (if gx then 0 else 4) else if q then (if gy then 2 else 6) else if gx && gy then 1 else if gy then 3 else if lx then 5 else 7

set_option maxHeartbeats 1000000 in
theorem sector_none (X Y a b : Nat) (w : World) (hax : ∀ w, Calls Try.prog 56 #[.float .f64 X] w (Keeps (.float .f64 a) w)) (hay : ∀ w, Calls Try.prog 56 #[.float .f64 Y] w (Keeps (.float .f64 b) w))
    (h : ((FloatKind.f64.format.order a 9218868437227405311 == some .gt) = true) ∨
      ((FloatKind.f64.format.order a 9218868437227405311 == some .gt) = false ∧ (FloatKind.f64.format.order b 9218868437227405311 == some .gt) = true) ∨
      ((FloatKind.f64.format.order a 9218868437227405311 == some .gt) = false ∧ (FloatKind.f64.format.order b 9218868437227405311 == some .gt) = false ∧ (FloatKind.f64.format.order X X != some .eq) = true) ∨
      ((FloatKind.f64.format.order a 9218868437227405311 == some .gt) = false ∧ (FloatKind.f64.format.order b 9218868437227405311 == some .gt) = false ∧ (FloatKind.f64.format.order X X != some .eq) = false ∧ (FloatKind.f64.format.order Y Y != some .eq) = true) ∨
      ((FloatKind.f64.format.order a 9218868437227405311 == some .gt) = false ∧ (FloatKind.f64.format.order b 9218868437227405311 == some .gt) = false ∧ (FloatKind.f64.format.order X X != some .eq) = false ∧ (FloatKind.f64.format.order Y Y != some .eq) = false ∧ (FloatKind.f64.format.order X 0 == some .eq && FloatKind.f64.format.order Y 0 == some .eq) = true)) :
    Calls Try.prog 39 #[.complex .f64 X Y] w (Keeps (.int .i64 (-1)) w) := by
  have HX := Lib.hid hax
  have HY := Lib.hid hay
  clear hax hay
  rcases h with h1 | ⟨h1, h2⟩ | ⟨h1, h2, h3⟩ | ⟨h1, h2, h3, h4⟩ | ⟨h1, h2, h3, h4, h5⟩
  all_goals
    go_enter Try.func39, Try.ntmps39
    go_wp2_with fail
    refine (HX.out _).mono ?_
    rintro e w' ⟨rfl, rfl⟩
    go_wp2_with fail
    refine (HY.out _).mono ?_
    rintro e w' ⟨rfl, rfl⟩
    go_wp2
    go_ret
    exact keeps_eq rfl

set_option maxHeartbeats 1000000 in
theorem sector_some (X Y a b a2 b2 : Nat) (p q gx gy lx : Bool) (w : World) (hax : ∀ w, Calls Try.prog 56 #[.float .f64 X] w (Keeps (.float .f64 a) w)) (hay : ∀ w, Calls Try.prog 56 #[.float .f64 Y] w (Keeps (.float .f64 b) w))
    (h1 : (FloatKind.f64.format.order a 9218868437227405311 == some .gt) = false) (h2 : (FloatKind.f64.format.order b 9218868437227405311 == some .gt) = false) (h3 : (FloatKind.f64.format.order X X != some .eq) = false) (h4 : (FloatKind.f64.format.order Y Y != some .eq) = false)
    (h5 : (FloatKind.f64.format.order X 0 == some .eq && FloatKind.f64.format.order Y 0 == some .eq) = false)
    (m1 : floatBits .mul .f64 4611686018427387904 a = some a2) (m2 : floatBits .mul .f64 4611686018427387904 b = some b2)
    (hp : (FloatKind.f64.format.order b2 a == some .lt || FloatKind.f64.format.order b2 a == some .eq) = p) (hq : (FloatKind.f64.format.order a2 b == some .lt || FloatKind.f64.format.order a2 b == some .eq) = q)
    (hgx : (FloatKind.f64.format.order X 0 == some .gt) = gx) (hgy : (FloatKind.f64.format.order Y 0 == some .gt) = gy) (hlx : (FloatKind.f64.format.order X 0 == some .lt) = lx) :
    Calls Try.prog 39 #[.complex .f64 X Y] w (Keeps (.int .i64 (secT p q gx gy lx)) w) := by
  have HX := Lib.hid hax
  have HY := Lib.hid hay
  have hm1 := fun w => run_float_arith (P := Try.prog) w .mul 42 .f64 _ _ _ m1
  have hm2 := fun w => run_float_arith (P := Try.prog) w .mul 42 .f64 _ _ _ m2
  clear hax hay m1 m2
  cases p <;> cases q <;> cases gx <;> cases gy <;> cases lx
  all_goals
    go_enter Try.func39, Try.ntmps39
    go_wp2_with fail
    refine (HX.out _).mono ?_
    rintro e w' ⟨rfl, rfl⟩
    go_wp2_with fail
    refine (HY.out _).mono ?_
    rintro e w' ⟨rfl, rfl⟩
    go_wp2
    go_ret
    exact keeps_eq rfl
end Go.Proofs.Ytilimgjmiijkiaa
