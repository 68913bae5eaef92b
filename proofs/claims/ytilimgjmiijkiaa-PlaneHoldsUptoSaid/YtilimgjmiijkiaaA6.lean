/- Contracts of plane and of the reference, 6: real numbers as points. -/
import Derived.Test.YtilimgjmiijkiaaA1
namespace Go.Proofs.Ytilimgjmiijkiaa
open Go.RowKit
attribute [local go_sem] BW.cell BW.frozen

theorem run_bits (b : Nat) (w : World) : (callFunc 53 #[.float .f64 b]).run Try.prog w = .ok (.value (.int .u64 b)) w := by kernel_rfl
theorem run_frombits (b : Int) (w : World) : (callFunc 32 #[.int .u64 b]).run Try.prog w = .ok (.value (.float .f64 b.toNat)) w := by kernel_rfl
theorem run_archTrunc (b : Nat) (w : World) : (callFunc 59 #[.float .f64 b]).run Try.prog w = ((Extern.MathFloor.toIntegral "math.archTrunc" .zero #[.float .f64 b]).bind fun v => .pure (.value v)).run Try.prog w := by kernel_rfl

theorem run_archTrunc_number (b : Nat) (w : World) (h : inR b = true) : (callFunc 59 #[.float .f64 b]).run Try.prog w = .ok (.value (.float .f64 (truncW b))) w := by
  rw [run_archTrunc]
  obtain ⟨s, m, i, hb⟩ := inR_number b h
  have hb' : FloatKind.f64.decode b = .number s m i := hb
  have e : truncW b = FloatKind.f64.encode ((Ieee.Datum.number s m i).integral .zero) := by unfold truncW; rw [hb]; rfl
  rw [e]
  delta Extern.MathFloor.toIntegral
  generalize FloatKind.decode = D at hb' ⊢
  conv => lhs; arg 2; arg 1; whnf
  rw [hb']
  rfl

theorem and_not_sign (b : Nat) (s : Bool) (r : Nat) (h : r < 9223372036854775808) (hb : b = Ieee.double.word s r) : bits .andNot .u64 (b : Int) 9223372036854775808 = (r : Int) := by
  have hl := word_lt s r h
  rw [← hb] at hl
  rw [u64_andNot (b : Int) 9223372036854775808 (by omega) (by omega) (by omega) (by omega)]
  have e1 : (b : Int).toNat = b := Int.toNat_natCast b
  have e2 : (18446744073709551615 - (9223372036854775808 : Int).toNat : Nat) = 2^63 - 1 := by decide
  rw [e1, e2, Nat.and_two_pow_sub_one_eq_mod]
  subst hb
  cases s
  · rw [word_false]; omega
  · rw [word_true]; omega

set_option maxHeartbeats 400000 in
theorem abs_any (s : Bool) (r : Nat) (w : World) (h : r < 9223372036854775808) : Calls Try.prog 56 #[.float .f64 (Ieee.double.word s r)] w (Keeps (.float .f64 r) w) := by
  have H := and_not_sign _ s r h rfl
  have H1 := run_bits (Ieee.double.word s r)
  have H2 := run_frombits r
  rw [Int.toNat_natCast] at H2
  go_enter Try.func56, Try.ntmps56
  go_wp2
  go_ret
  exact keeps_eq rfl

set_option maxHeartbeats 400000 in
theorem trunc_any (b : Nat) (w : World) (h : inR b = true) : Calls Try.prog 54 #[.float .f64 b] w (Keeps (.float .f64 (truncW b)) w) := by
  have H := fun w => run_archTrunc_number b w h
  clear h
  go_enter Try.func54, Try.ntmps54
  go_wp2
  go_ret
  exact keeps_eq rfl

/-- the two tests of being in the plane -/
def c1 (b : Nat) : Bool := FloatKind.f64.format.order b 13898108450065350656 == some .gt || FloatKind.f64.format.order b 13898108450065350656 == some .eq
def c2 (b : Nat) : Bool := FloatKind.f64.format.order b 4674736138332667904 == some .lt || FloatKind.f64.format.order b 4674736138332667904 == some .eq
theorem inR_c (b : Nat) : inR b = (c1 b && c2 b) := rfl

def whN (b : Nat) : Int := if inR b then tr b else 0

set_option maxHeartbeats 400000 in
theorem whole_any (b : Nat) (w : World) : Calls Try.prog 55 #[.float .f64 b] w (Keeps (.tuple #[.int .i16 (whN b), .bool (wh b)]) w) := by
  cases h1 : c1 b
  · have e : inR b = false := by rw [inR_c, h1]; rfl
    have e1 : whN b = 0 := by unfold whN; rw [e]; rfl
    have e2 : wh b = false := by unfold wh; rw [e]; rfl
    rw [e1, e2]
    clear e e1 e2
    unfold c1 at h1
    go_enter Try.func55, Try.ntmps55
    go_wp2
    go_ret2
    exact keeps_eq rfl
  · cases h2 : c2 b
    · have e : inR b = false := by rw [inR_c, h1, h2]; rfl
      have e1 : whN b = 0 := by unfold whN; rw [e]; rfl
      have e2 : wh b = false := by unfold wh; rw [e]; rfl
      rw [e1, e2]
      clear e e1 e2
      unfold c1 at h1
      unfold c2 at h2
      go_enter Try.func55, Try.ntmps55
      go_wp2
      go_ret2
      exact keeps_eq rfl
    · have e : inR b = true := by rw [inR_c, h1, h2]; rfl
      have e1 : whN b = tr b := by unfold whN; rw [e]; rfl
      have e2 : wh b = (FloatKind.f64.format.order (floatOfInt .f64 (tr b)) b == some .eq) := by unfold wh; rw [e]; rfl
      obtain ⟨s1, s2, s3, s4⟩ := inR_spec b e
      have e3 : floatToIntVal .f64 b .i16 = some (tr b) := by
        unfold floatToIntVal
        have : (FloatKind.f64.decode b).toInt .zero = some (tr b) := s3
        rw [this]
        simp only []
        rw [if_pos ⟨s1, s2⟩]
      have hcv := fun w => run_convert_float_int (P := Try.prog) w 42 22 .f64 .i16 b (tr b) (by kernel_rfl) Try.underlying22 e3
      rw [e1, e2]
      clear e e1 e2 e3 s1 s2 s3 s4
      unfold c1 at h1
      unfold c2 at h2
      go_enter Try.func55, Try.ntmps55
      go_wp2
      go_ret2
      exact keeps_eq rfl
end Go.Proofs.Ytilimgjmiijkiaa
