/- Plain arithmetic of double words, 2: every word is a sign and a rung; what is none; what is doubled; the winds. -/
import Derived.Test.YtilimgjmiijkiaaM
import GoSem.Op.Unary
namespace Go.Proofs.Ytilimgjmiijkiaa
open Ieee

def INF : Nat := 9218868437227405312
theorem inf_eq : INF = 2047 * 4503599627370496 := by decide

theorem word_of (b : Nat) (h : b < 18446744073709551616) : ∃ s r, r < 9223372036854775808 ∧ b = double.word s r := by
  unfold Format.word
  simp only [sw]
  rcases Nat.lt_or_ge b 9223372036854775808 with h1 | h1
  · exact ⟨false, b, h1, by simp⟩
  · exact ⟨true, b - 9223372036854775808, by omega, by simp only [if_true]; omega⟩

theorem word_lt (s : Bool) (r : Nat) (h : r < 9223372036854775808) : double.word s r < 18446744073709551616 := by
  unfold Format.word; simp only [sw]; split <;> omega

theorem word_false (r : Nat) : double.word false r = r := by simp [Format.word]
theorem word_true (r : Nat) : double.word true r = 9223372036854775808 + r := by simp [Format.word, sw]

theorem read_word_nan (s : Bool) (r : Nat) (h0 : INF < r) (h : r < 9223372036854775808) : double.read (double.word s r) = .nan s (r - INF) := by
  unfold INF at *
  unfold Format.read Format.word
  simp only [sw, pow52, infR]
  cases s
  · simp only [Bool.false_eq_true, if_false]
    have e : r % 9223372036854775808 = r := by omega
    rw [e, if_neg (by omega), if_neg (by omega), if_neg (by omega)]
    have : r / 9223372036854775808 = 0 := by omega
    rw [this]; rfl
  · simp only [if_true]
    have e : (9223372036854775808 + r) % 9223372036854775808 = r := by omega
    rw [e, if_neg (by omega), if_neg (by omega), if_neg (by omega)]
    have : (9223372036854775808 + r) / 9223372036854775808 = 1 := by omega
    rw [this]; rfl

theorem order_nan_left (s : Bool) (r b : Nat) (h0 : INF < r) (h : r < 9223372036854775808) : double.order (double.word s r) b = none := by
  unfold Format.order; rw [read_word_nan s r h0 h]; rfl
theorem order_nan_right (s : Bool) (r b : Nat) (h0 : INF < r) (h : r < 9223372036854775808) : double.order b (double.word s r) = none := by
  unfold Format.order; rw [read_word_nan s r h0 h]; cases double.read b <;> rfl

theorem order_w (s t : Bool) (r q : Nat) (hr : r ≤ INF) (hq : q ≤ INF) : double.order (double.word s r) (double.word t q) = some (compare (si s r) (si t q)) :=
  order_word s t r q (by rw [← inf_eq]; exact hr) (by rw [← inf_eq]; exact hq)

/-- a rung, doubled -/
def dbl (r : Nat) : Nat := if r < 4503599627370496 then 2 * r else if r + 4503599627370496 ≤ INF then r + 4503599627370496 else INF

theorem dbl_cases (r : Nat) : (r < 4503599627370496 ∧ dbl r = 2 * r) ∨ (4503599627370496 ≤ r ∧ r + 4503599627370496 ≤ INF ∧ dbl r = r + 4503599627370496) ∨ (4503599627370496 ≤ r ∧ INF < r + 4503599627370496 ∧ dbl r = INF) := by
  unfold dbl
  by_cases h1 : r < 4503599627370496
  · exact .inl ⟨h1, by rw [if_pos h1]⟩
  · rw [if_neg h1]
    by_cases h2 : r + 4503599627370496 ≤ INF
    · exact .inr (.inl ⟨by omega, h2, by rw [if_pos h2]⟩)
    · exact .inr (.inr ⟨by omega, by omega, by rw [if_neg h2]⟩)

theorem dbl_le (r : Nat) : dbl r ≤ INF := by
  rcases dbl_cases r with ⟨a, b⟩ | ⟨a, b, c⟩ | ⟨a, b, c⟩ <;> rw [inf_eq] at * <;> omega

theorem dbl_hi (r k n : Nat) (h0 : 4503599627370496 ≤ r) (h1 : r < 9218868437227405312) (hk : k = r / 4503599627370496 - 1) (hn : n = 4503599627370496 + r % 4503599627370496) :
    min ((k + 1) * 4503599627370496 + n) (2047 * 4503599627370496) = dbl r := by
  have hi : INF = 9218868437227405312 := rfl
  have e : (k + 1) * 4503599627370496 + n = r + 4503599627370496 := by omega
  rw [e]
  rcases dbl_cases r with ⟨a, b⟩ | ⟨a, b, c⟩ | ⟨a, b, c⟩
  · omega
  · rw [c, Nat.min_eq_left (by omega)]
  · rw [c, Nat.min_eq_right (by omega), inf_eq]

theorem two_eq : (4611686018427387904 : Nat) = double.word false 4611686018427387904 := by rw [word_false]
theorem read_two : double.read 4611686018427387904 = .number false 4503599627370496 (-51) := by decide +kernel

theorem mul_two (t : Bool) (r : Nat) (h : r ≤ INF) : double.mul 4611686018427387904 (double.word t r) = some (double.word t (dbl r)) := by
  unfold Format.mul
  rw [read_two]
  rcases Nat.lt_or_ge r INF with h1 | h1
  · unfold INF at h1
    by_cases h0 : r < 4503599627370496
    · rw [read_word_lo t r h0]
      simp only [Datum.product, Option.map_some, Format.write, Bool.false_xor]
      rcases Nat.eq_zero_or_pos r with rfl | hr
      · simp [Format.nearest, dbl]
      · have hL : r.log2 < 52 := (Nat.log2_lt (by omega)).2 (by rw [p52]; exact h0)
        have hm : 4503599627370496 * r = r * 2^52 := by rw [p52]; omega
        rw [hm]
        unfold Format.nearest
        have hne : r * 2^52 ≠ 0 := by rw [p52]; omega
        rw [if_neg hne, log2_mul_pow r 52 hr]
        have hlast : max (-51 + -1074 + ((r.log2 + 52 : Nat) : Int) - (double.fractionBits : Nat)) double.leastPlace = -1074 := by rw [lp, fb52]; omega
        simp only [hlast]
        have e1 : ((-51 + -1074 : Int) - -1074).toNat = 0 := by decide
        have e2 : ((-1074 : Int) - (-51 + -1074)).toNat = 51 := by decide
        rw [e1, e2, Nat.shiftLeft_eq, Nat.pow_zero, Nat.mul_one]
        have hcut : Toward.even.cut t (r * 2^52) 51 = 2 * r := by
          unfold Toward.cut
          have e4 : min 51 ((r * 2^52).log2 + 2) = 51 := by rw [log2_mul_pow r 52 hr]; omega
          simp only [e4]
          have e5 : r * 2^52 = 2 * r * 2^51 := by rw [p52, show (2:Nat)^51 = 2251799813685248 from by decide]; omega
          rw [Nat.shiftLeft_eq, Nat.one_mul, e5, Nat.mul_div_cancel _ (Nat.two_pow_pos _), Nat.mul_mod_left]
          simp
        rw [hcut, lp, infR, pow52]
        have e6 : dbl r = 2 * r := by unfold dbl; rw [if_pos h0]
        rw [e6]
        have e7 : min (((-1074 : Int) - -1074).toNat * 4503599627370496 + 2 * r) (2047 * 4503599627370496) = 2 * r := by omega
        rw [e7]
    · rw [read_word_hi t r (by omega) (by omega)]
      simp only [Datum.product, Option.map_some, Format.write, Bool.false_xor]
      obtain ⟨n, hn⟩ : ∃ n, n = 4503599627370496 + r % 4503599627370496 := ⟨_, rfl⟩
      rw [← hn]
      have hn1 : 2^52 ≤ n := by rw [p52]; omega
      have hn2 : n < 2^53 := by rw [p53]; omega
      have hL : n.log2 = 52 := by
        have h1 : n.log2 < 53 := (Nat.log2_lt (by omega)).2 hn2
        have h2 : ¬ n.log2 < 52 := fun h => by have := (Nat.log2_lt (by omega)).1 h; omega
        omega
      have hm : 4503599627370496 * n = n * 2^52 := by rw [p52]; omega
      rw [hm]
      unfold Format.nearest
      have hne : n * 2^52 ≠ 0 := by rw [p52] at *; omega
      rw [if_neg hne, log2_mul_pow n 52 (by omega), hL]
      obtain ⟨k, hk⟩ : ∃ k, k = r / 4503599627370496 - 1 := ⟨_, rfl⟩
      rw [← hk]
      have hlast : max (-51 + (-1074 + (k : Int)) + ((52 + 52 : Nat) : Int) - (double.fractionBits : Nat)) double.leastPlace = -1073 + (k : Int) := by rw [lp, fb52]; omega
      simp only [hlast]
      have e1 : ((-51 + (-1074 + (k : Int)) : Int) - (-1073 + (k : Int))).toNat = 0 := by omega
      have e2 : ((-1073 + (k : Int) : Int) - (-51 + (-1074 + (k : Int)))).toNat = 52 := by omega
      rw [e1, e2, Nat.shiftLeft_eq, Nat.pow_zero, Nat.mul_one]
      have hcut : Toward.even.cut t (n * 2^52) 52 = n := by
        unfold Toward.cut
        have e4 : min 52 ((n * 2^52).log2 + 2) = 52 := by rw [log2_mul_pow n 52 (by omega)]; omega
        simp only [e4]
        rw [Nat.shiftLeft_eq, Nat.one_mul, Nat.mul_div_cancel _ (Nat.two_pow_pos _), Nat.mul_mod_left]
        simp
      rw [hcut, lp, infR, pow52]
      have e5 : ((-1073 + (k : Int) : Int) - -1074).toNat = k + 1 := by omega
      rw [e5]
      rw [dbl_hi r k n (by omega) h1 hk hn]
  · have : r = INF := by omega
    subst this
    rw [inf_eq, read_word_inf]
    simp only [Datum.product]
    rw [if_neg (by decide)]
    simp only [Option.map_some, Format.write, infR, Bool.xor_false]
    have e8 : dbl (2047 * 4503599627370496) = 2047 * 4503599627370496 := by decide
    rw [e8]

theorem neg_word (s : Bool) (r : Nat) (h : r < 9223372036854775808) : Op.negFloat .f64 (double.word s r) = double.word (!s) r := by
  show double.word s r ^^^ 2^63 = _
  cases s
  · rw [word_false, Bool.not_false, word_true]
    rw [show (9223372036854775808 : Nat) = 2^63 from by decide] at *
    rw [Nat.xor_comm]
    have : 2^63 ^^^ r = 2^63 + r := by
      have h1 : 2^63 &&& r = 0 := by
        apply Nat.eq_of_testBit_eq
        intro i
        rw [Nat.testBit_and, Nat.testBit_two_pow, Nat.zero_testBit]
        by_cases hi : 63 = i
        · subst hi; simp [Nat.testBit_lt_two_pow h]
        · simp [hi]
      have h2 := Nat.two_pow_add_eq_or_of_lt h 1
      rw [Nat.mul_one] at h2
      rw [h2]
      apply Nat.eq_of_testBit_eq
      intro i
      rw [Nat.testBit_xor, Nat.testBit_or]
      have h3 := congrArg (·.testBit i) h1
      simp only [Nat.testBit_and, Nat.zero_testBit] at h3
      cases ha : (2^63).testBit i <;> cases hb : r.testBit i <;> simp_all
    exact this
  · rw [word_true, Bool.not_true, word_false]
    have h2 := Nat.two_pow_add_eq_or_of_lt (show r < 2^63 from h) 1
    rw [Nat.mul_one] at h2
    rw [show (9223372036854775808 : Nat) + r = 2^63 + r from rfl, h2]
    apply Nat.eq_of_testBit_eq
    intro i
    rw [Nat.testBit_xor, Nat.testBit_or, Nat.testBit_two_pow]
    by_cases hi : 63 = i
    · subst hi; simp [Nat.testBit_lt_two_pow (show r < 2^63 from h)]
    · simp [hi]

/-! ### The winds -/
/-- the wind of a displacement: two signs, two rungs -/
def sec (s t : Bool) (r q : Nat) : Int :=
  if INF ≤ r ∨ INF ≤ q ∨ (r = 0 ∧ q = 0) then -1
  else if dbl q ≤ r then (if s then 4 else 0)
  else if dbl r ≤ q then (if t then 6 else 2)
  else if s then (if t then 5 else 3) else (if t then 7 else 1)

theorem sec_lo (s t : Bool) (r q : Nat) : sec s t r q = -1 ∨ (0 ≤ sec s t r q ∧ sec s t r q < 8) := by
  unfold sec; cases s <;> cases t <;> simp only [Bool.false_eq_true, if_false, if_true] <;> (repeat' split) <;> omega

theorem both_none {r q : Nat} (h1 : dbl q ≤ r) (h2 : dbl r ≤ q) (hr : r < INF) (hq : q < INF) : r = 0 ∧ q = 0 := by
  rcases dbl_cases r with ⟨a, b⟩ | ⟨a, b, c⟩ | ⟨a, b, c⟩ <;> rcases dbl_cases q with ⟨a', b'⟩ | ⟨a', b', c'⟩ | ⟨a', b', c'⟩ <;> constructor <;> omega

theorem sec_i (s t : Bool) (r q : Nat) (h : sec s t r q ≠ -1) : sec (!t) s q r = (sec s t r q + 2) % 8 ∧ sec (!s) (!t) r q = (sec s t r q + 4) % 8 ∧ sec s (!t) r q = (8 - sec s t r q) % 8 := by
  unfold sec at h ⊢
  by_cases h0 : INF ≤ r ∨ INF ≤ q ∨ (r = 0 ∧ q = 0)
  · rw [if_pos h0] at h; exact absurd rfl h
  · have h0' : ¬ (INF ≤ q ∨ INF ≤ r ∨ (q = 0 ∧ r = 0)) := by omega
    rw [if_neg h0, if_neg h0', if_neg h0, if_neg h0]
    by_cases h1 : dbl q ≤ r
    · by_cases h2 : dbl r ≤ q
      · exact absurd (both_none h1 h2 (by omega) (by omega)) (by omega)
      · simp only [if_pos h1, if_neg h2]
        cases s <;> cases t <;> decide
    · by_cases h2 : dbl r ≤ q
      · simp only [if_neg h1, if_pos h2]
        cases s <;> cases t <;> decide
      · simp only [if_neg h1, if_neg h2]
        cases s <;> cases t <;> decide

theorem sec_none (s t s' t' : Bool) (r q : Nat) (h : sec s t r q = -1) : sec s' t' r q = -1 ∧ sec s' t' q r = -1 := by
  unfold sec at h ⊢
  by_cases h0 : INF ≤ r ∨ INF ≤ q ∨ (r = 0 ∧ q = 0)
  · have h0' : (INF ≤ q ∨ INF ≤ r ∨ (q = 0 ∧ r = 0)) := by omega
    rw [if_pos h0, if_pos h0']; exact ⟨rfl, rfl⟩
  · rw [if_neg h0] at h
    exfalso
    revert h
    cases s <;> cases t <;> (repeat' split) <;> decide
end Go.Proofs.Ytilimgjmiijkiaa
