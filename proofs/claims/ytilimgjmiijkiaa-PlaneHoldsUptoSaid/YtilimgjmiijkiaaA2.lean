/- Contracts of plane and of the reference, 2: inside, around, steps. -/
import Derived.Test.YtilimgjmiijkiaaA1
namespace Go.Proofs.Ytilimgjmiijkiaa
open Go.RowKit
attribute [local go_sem] BW.cell BW.frozen

def pt (x y : Int) : Value := .agg #[.int .i16 x, .int .i16 y]
def bx4 (a b c d : Int) : Value := .agg #[.int .i16 a, .int .i16 b, .int .i16 c, .int .i16 d]
def ins (x y a b c d : Int) : Bool := decide (a ≤ x) && decide (x ≤ c) && decide (b ≤ y) && decide (y ≤ d)

set_option maxHeartbeats 1000000 in
theorem inside_any (x y a b c d : Int) (w : World) :
    Calls Try.prog 44 #[.agg #[.int .i16 x, .int .i16 y], .agg #[.int .i16 a, .int .i16 b, .int .i16 c, .int .i16 d]] w (Gives (.bool (ins x y a b c d)) w) := by
  by_cases h1 : a ≤ x
  · by_cases h2 : x ≤ c
    · by_cases h3 : b ≤ y
      · by_cases h4 : y ≤ d
        · go_enter Try.func44, Try.ntmps44
          go_wp2
          go_ret
          exact gives_of_eq (by simp [ins, h1, h2, h3, h4]) (((Below.refl _ w).alloc (Nat.le_refl _) _).alloc (by simp) _)
        · go_enter Try.func44, Try.ntmps44
          go_wp2
          go_ret
          exact gives_of_eq (by simp [ins, h1, h2, h3]; omega) (((Below.refl _ w).alloc (Nat.le_refl _) _).alloc (by simp) _)
      · go_enter Try.func44, Try.ntmps44
        go_wp2
        go_ret
        exact gives_of_eq (by simp [ins, h1, h2]; omega) (((Below.refl _ w).alloc (Nat.le_refl _) _).alloc (by simp) _)
    · go_enter Try.func44, Try.ntmps44
      go_wp2
      go_ret
      exact gives_of_eq (by simp [ins, h1]; omega) (((Below.refl _ w).alloc (Nat.le_refl _) _).alloc (by simp) _)
  · go_enter Try.func44, Try.ntmps44
    go_wp2
    go_ret
    exact gives_of_eq (by simp [ins]; omega) (((Below.refl _ w).alloc (Nat.le_refl _) _).alloc (by simp) _)
set_option maxHeartbeats 1000000 in
theorem rinside_any (x y a b c d : Int) (w : World) :
    Calls Try.prog 45 #[.agg #[.int .i16 x, .int .i16 y], .agg #[.int .i16 a, .int .i16 b, .int .i16 c, .int .i16 d]] w (Gives (.bool (ins x y a b c d)) w) := by
  by_cases h1 : a ≤ x
  · by_cases h2 : x ≤ c
    · by_cases h3 : b ≤ y
      · by_cases h4 : y ≤ d
        · go_enter Try.func45, Try.ntmps45
          go_wp2
          go_ret
          exact gives_of_eq (by simp [ins, h1, h2, h3, h4]) (((Below.refl _ w).alloc (Nat.le_refl _) _).alloc (by simp) _)
        · go_enter Try.func45, Try.ntmps45
          go_wp2
          go_ret
          exact gives_of_eq (by simp [ins, h1, h2, h3]; omega) (((Below.refl _ w).alloc (Nat.le_refl _) _).alloc (by simp) _)
      · go_enter Try.func45, Try.ntmps45
        go_wp2
        go_ret
        exact gives_of_eq (by simp [ins, h1, h2]; omega) (((Below.refl _ w).alloc (Nat.le_refl _) _).alloc (by simp) _)
    · go_enter Try.func45, Try.ntmps45
      go_wp2
      go_ret
      exact gives_of_eq (by simp [ins, h1]; omega) (((Below.refl _ w).alloc (Nat.le_refl _) _).alloc (by simp) _)
  · go_enter Try.func45, Try.ntmps45
    go_wp2
    go_ret
    exact gives_of_eq (by simp [ins]; omega) (((Below.refl _ w).alloc (Nat.le_refl _) _).alloc (by simp) _)

/-- the radius that counts -/
def rad (r : Int) : Int := if r < 0 then 0 else if 131070 < r then 131070 else r

end Go.Proofs.Ytilimgjmiijkiaa
