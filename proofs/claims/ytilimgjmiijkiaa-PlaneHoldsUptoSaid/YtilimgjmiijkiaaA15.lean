/- Contracts of plane and of the reference, 15: alike words; halves and quarters are no points; the special words. -/
import Derived.Test.YtilimgjmiijkiaaA8
namespace Go.Proofs.Ytilimgjmiijkiaa
open Go.RowKit Ieee
attribute [local go_sem] BW.cell BW.frozen

theorem Calls.bw_at {P : Program} {f : FuncId} {args : Array Value} {B : Nat} {W w : World} {v : Value} (hw : Below B W w) (hB : B ≤ w.heap.size)
    (h : Calls P f args w (Gives v w)) : Calls P f args w fun e w'' => e = .returned v ∧ ∃ y : BW B W, w'' = y.i :=
  h.mono fun _ _ ⟨he, y, hy⟩ => ⟨he, ⟨y.i, hw.trans (y.h.mono hB)⟩, hy⟩

theorem Calls.bw_at_same {P : Program} {f : FuncId} {args : Array Value} {B : Nat} {W w : World} {v : Value} (hw : Below B W w)
    (h : Calls P f args w (Keeps v w)) : Calls P f args w fun e w'' => e = .returned v ∧ ∃ y : BW B W, w'' = y.i :=
  h.mono fun _ _ ⟨he, hy⟩ => ⟨he, ⟨w, hw⟩, hy.symm⟩

set_option maxHeartbeats 400000 in
theorem alike_same (b : Nat) (w : World) : Calls Try.prog 31 #[.float .f64 b, .float .f64 b] w (Keeps (.bool true) w) := by
  have H1 := run_bits b
  go_enter Try.func31, Try.ntmps31
  go_wp2
  go_ret
  exact keeps_eq rfl

set_option maxHeartbeats 400000 in
theorem inf_any (w : World) : Calls Try.prog 47 #[.int .i64 1] w (Keeps (.float .f64 9218868437227405312) w) := by
  have H1 := run_frombits 9218868437227405312
  go_enter Try.func47, Try.ntmps47
  go_wp2
  go_ret
  exact keeps_eq rfl

set_option maxHeartbeats 400000 in
theorem nan_any (w : World) : Calls Try.prog 48 #[] w (Keeps (.float .f64 9221120237041090561) w) := by
  have H1 := run_frombits 9221120237041090561
  go_enter Try.func48, Try.ntmps48
  go_wp2
  go_ret
  exact keeps_eq rfl

set_option maxHeartbeats 400000 in
theorem copysign_no (w : World) : Calls Try.prog 46 #[.float .f64 0, .float .f64 13830554455654793216] w (Keeps (.float .f64 9223372036854775808) w) := by
  have H1 := run_frombits 9223372036854775808
  have H2 := run_bits 0
  have H3 := run_bits 13830554455654793216
  have e1 : bits .andNot .u64 0 9223372036854775808 = 0 := by decide +kernel
  have e2 : bits .and .u64 13830554455654793216 9223372036854775808 = 9223372036854775808 := by decide +kernel
  have e3 : bits .or .u64 0 9223372036854775808 = 9223372036854775808 := by decide +kernel
  go_enter Try.func46, Try.ntmps46
  go_wp2
  go_ret
  exact keeps_eq rfl

theorem eq_of_cmp {a b : Int} (h : (some (compare a b) == some Ordering.eq) = true) : a = b := by
  rcases Int.lt_trichotomy a b with c | c | c
  · rw [cmp_lt c] at h; cases h
  · exact c
  · rw [cmp_gt c] at h; cases h

/-- an odd number of halves (quarters) is no whole number -/
theorem odd_part (s : Bool) (N p : Nat) (hp : p = 1 ∨ p = 2) (hN : N % 2 = 1) (hs : N < 1073741824) : wh (fw s N (-(p : Int))) = false := by
  have h53 : (2:Nat)^53 = 9007199254740992 := p53
  cases hr : inR (fw s N (-(p : Int)))
  · unfold wh; rw [hr]; rfl
  obtain ⟨t1, t2, -, -⟩ := inR_spec _ hr
  unfold wh
  rw [hr]
  generalize tr (fw s N (-(p : Int))) = t at *
  have hp1 : 2^p = 2 * 2^(p - 1) := by rcases hp with rfl | rfl <;> rfl
  have hp2 : 2^p ≤ 4 := by rcases hp with rfl | rfl <;> decide
  have e : fl t = fw (decide (t < 0)) (t.natAbs * 2^p) (-(p : Int)) := by
    have := fw_units (decide (t < 0)) t.natAbs p 0 (by decide) (by decide) (by omega)
    rw [Int.zero_sub] at this
    exact this.symm
  have hb : t.natAbs * 2^p ≤ 32768 * 4 := Nat.mul_le_mul (by omega) hp2
  rw [e, order_fw _ _ _ _ _ (by omega) (by omega) (by omega) (by omega), Bool.true_and]
  cases hc : (some (compare (si (decide (t < 0)) (t.natAbs * 2^p)) (si s N)) == some Ordering.eq)
  · rfl
  · exfalso
    have h := eq_of_cmp hc
    have h2 : t.natAbs * 2^p = 2 * (t.natAbs * 2^(p - 1)) := by rw [hp1, Nat.mul_left_comm]
    rw [h2] at h
    unfold si at h
    split at h <;> split at h <;> omega

/-- half a step beside a point -/
theorem half_fl (x : Int) (h1 : -32768 ≤ x) (h2 : x ≤ 32767) : ∃ b, double.add (fl x) 4602678819172646912 = some b ∧ wh b = false := by
  have h53 : (2:Nat)^53 = 9007199254740992 := p53
  have e : fl x = fw (decide (x < 0)) (x.natAbs * 2^1) (-((1 : Nat) : Int)) := by
    have := fw_units (decide (x < 0)) x.natAbs 1 0 (by decide) (by decide) (by omega)
    rw [Int.zero_sub] at this
    exact this.symm
  have e2 : (4602678819172646912 : Nat) = fw false 1 (-((1 : Nat) : Int)) := by decide +kernel
  have hz : (si (decide (x < 0)) (x.natAbs * 2^1) + si false 1) = 2 * x + 1 := by
    unfold si
    by_cases hx : x < 0
    · rw [decide_eq_true hx]; simp; omega
    · rw [decide_eq_false hx]; simp; omega
  rw [e, e2, add_fw _ _ _ _ _ (by omega) (by omega) (by omega) (by omega) (by rw [hz]; omega), hz]
  exact ⟨_, rfl, odd_part _ _ 1 (.inl rfl) (by omega) (by omega)⟩

theorem quarter_fl (x : Int) (h1 : -32768 ≤ x) (h2 : x ≤ 32767) : ∃ b, double.sub (fl x) 4598175219545276416 = some b ∧ wh b = false := by
  have h53 : (2:Nat)^53 = 9007199254740992 := p53
  have e : fl x = fw (decide (x < 0)) (x.natAbs * 2^2) (-((2 : Nat) : Int)) := by
    have := fw_units (decide (x < 0)) x.natAbs 2 0 (by decide) (by decide) (by omega)
    rw [Int.zero_sub] at this
    exact this.symm
  have e2 : (4598175219545276416 : Nat) = fw false 1 (-((2 : Nat) : Int)) := by decide +kernel
  have hz : (si (decide (x < 0)) (x.natAbs * 2^2) + si (!false) 1) = 4 * x - 1 := by
    unfold si
    by_cases hx : x < 0
    · rw [decide_eq_true hx]; simp; omega
    · rw [decide_eq_false hx]; simp; omega
  rw [e, e2, sub_fw _ _ _ _ _ (by omega) (by omega) (by omega) (by omega) (by rw [hz]; omega), hz]
  exact ⟨_, rfl, odd_part _ _ 2 (.inr rfl) (by omega) (by omega)⟩

theorem fl_add_zero (x : Int) (h1 : -32768 ≤ x) (h2 : x ≤ 32767) : double.add (fl x) 0 = some (fl x) ∧ double.sub (fl x) 0 = some (fl x) := by
  have h53 : (2:Nat)^53 = 9007199254740992 := p53
  have a := add_FI false false x 0 (by omega) (by decide) (by omega)
  have b := sub_FI false false x 0 (by omega) (by decide) (by omega)
  rw [← zero_FI, ← fl_FI] at a b
  have e : ∀ z : Bool, (x = 0 → z = false) → FI z x = fl x := fun z h => by
    rw [fl_FI]; unfold FI sg
    by_cases hx : x = 0
    · rw [if_pos hx, if_pos hx, h hx]
    · rw [if_neg hx, if_neg hx]
  rw [Int.add_zero] at a
  rw [Int.sub_zero] at b
  refine ⟨?_, ?_⟩
  · rw [a, e]; intro h; unfold sg; rw [if_pos h]; rfl
  · rw [b, e]; intro h; unfold sg; rw [if_pos h]; rfl
end Go.Proofs.Ytilimgjmiijkiaa
