/- Plain arithmetic of double words, 3: whole numbers with a sign of nought; what is whole and in the plane; quarters of a turn. -/
import Derived.Test.YtilimgjmiijkiaaM2
import Derived.Laws.ComplexArith
namespace Go.Proofs.Ytilimgjmiijkiaa
open Ieee

/-- the word of a whole number -/
def fl (n : Int) : Nat := fw (decide (n < 0)) n.natAbs 0
theorem nearest_fl (n : Int) : FloatKind.f64.nearest n = fl n := rfl

def sg (z : Bool) (n : Int) : Bool := if n = 0 then z else decide (n < 0)
/-- the same, nought having the sign z -/
def FI (z : Bool) (n : Int) : Nat := fw (sg z n) n.natAbs 0

theorem fl_FI (n : Int) : fl n = FI false n := by
  unfold fl FI sg
  by_cases h : n = 0
  · subst h; rfl
  · rw [if_neg h]

theorem si_sg (z : Bool) (n : Int) : si (sg z n) n.natAbs = n := by
  unfold si sg
  by_cases h : n = 0
  · subst h; cases z <;> rfl
  · rw [if_neg h]
    by_cases h2 : n < 0
    · simp only [h2, decide_true, if_true]; omega
    · simp only [h2, decide_false, Bool.false_eq_true, if_false]; omega

theorem si_not_sg (z : Bool) (n : Int) : si (!sg z n) n.natAbs = -n := by
  have h := si_sg z n
  unfold si at h ⊢
  revert h
  cases sg z n <;> intro h <;> simp only [Bool.not_true, Bool.not_false, Bool.false_eq_true, if_false, if_true] at h ⊢ <;> omega

theorem add_FI (z z' : Bool) (n m : Int) (hn : n.natAbs < 2^53) (hm : m.natAbs < 2^53) (hs : (n + m).natAbs < 2^53) :
    double.add (FI z n) (FI z' m) = some (FI (sg z n && sg z' m) (n + m)) := by
  have h := add_fw (sg z n) (sg z' m) n.natAbs m.natAbs 0 (by omega) (by omega) hn hm (by rw [si_sg, si_sg]; exact hs)
  rw [si_sg, si_sg] at h
  exact h

theorem sub_FI (z z' : Bool) (n m : Int) (hn : n.natAbs < 2^53) (hm : m.natAbs < 2^53) (hs : (n - m).natAbs < 2^53) :
    double.sub (FI z n) (FI z' m) = some (FI (sg z n && !sg z' m) (n - m)) := by
  have h := sub_fw (sg z n) (sg z' m) n.natAbs m.natAbs 0 (by omega) (by omega) hn hm (by rw [si_sg, si_not_sg]; exact hs)
  rw [si_sg, si_not_sg] at h
  exact h

theorem mul_FI (z z' : Bool) (n m : Int) (hn : n.natAbs < 2^53) (hm : m.natAbs < 2^53) (hs : (n * m).natAbs < 2^53) :
    double.mul (FI z n) (FI z' m) = some (FI (sg z n ^^ sg z' m) (n * m)) := by
  have h := mul_fw (sg z n) (sg z' m) n.natAbs m.natAbs hn hm (by rw [← Int.natAbs_mul]; exact hs)
  show double.mul (fw (sg z n) n.natAbs 0) (fw (sg z' m) m.natAbs 0) = _
  rw [h, ← Int.natAbs_mul]
  unfold FI
  congr 2
  by_cases hz : n * m = 0
  · simp [sg, hz]
  · have hn0 : n ≠ 0 := fun e => hz (by rw [e, Int.zero_mul])
    have hm0 : m ≠ 0 := fun e => hz (by rw [e, Int.mul_zero])
    unfold sg
    rw [if_neg hn0, if_neg hm0, if_neg hz]
    rcases Int.lt_or_gt_of_ne hn0 with h1 | h1 <;> rcases Int.lt_or_gt_of_ne hm0 with h2 | h2
    · have := Int.mul_pos_of_neg_of_neg h1 h2
      simp [h1, h2, Int.not_lt.2 (Int.le_of_lt this)]
    · have := Int.mul_neg_of_neg_of_pos h1 h2
      simp [h1, Int.not_lt.2 (Int.le_of_lt h2), this]
    · have := Int.mul_neg_of_pos_of_neg h1 h2
      simp [h2, Int.not_lt.2 (Int.le_of_lt h1), this]
    · have := Int.mul_pos h1 h2
      simp [Int.not_lt.2 (Int.le_of_lt h1), Int.not_lt.2 (Int.le_of_lt h2), Int.not_lt.2 (Int.le_of_lt this)]

theorem order_FI (z z' : Bool) (n m : Int) (hn : n.natAbs < 2^53) (hm : m.natAbs < 2^53) : double.order (FI z n) (FI z' m) = some (compare n m) := by
  have h := order_fw (sg z n) (sg z' m) n.natAbs m.natAbs 0 (by omega) (by omega) hn hm
  rw [si_sg, si_sg] at h
  exact h

theorem zero_FI : (0 : Nat) = FI false 0 := by decide
theorem one_FI : (4607182418800017408 : Nat) = FI false 1 := by decide +kernel
theorem lo_FI : (13898108450065350656 : Nat) = FI false (-32768) := by decide +kernel
theorem hi_FI : (4674736138332667904 : Nat) = FI false 32767 := by decide +kernel

/-- times i -/
theorem times_i (z1 z2 : Bool) (x y : Int) (hx : x.natAbs ≤ 1073741824) (hy : y.natAbs ≤ 1073741824) :
    ∃ z3 z4, cMulBits (FI z1 x) (FI z2 y) 0 4607182418800017408 = some (FI z3 (-y), FI z4 x) := by
  have p : (2:Nat)^53 = 9007199254740992 := p53
  refine ⟨sg (sg z1 x ^^ sg false 0) 0 && !sg (sg z2 y ^^ sg false 1) y, sg (sg z1 x ^^ sg false 1) x && sg (sg z2 y ^^ sg false 0) 0, ?_⟩
  unfold cMulBits
  rw [zero_FI, one_FI]
  show (double.mul (FI z1 x) (FI false 0)).bind _ = _
  rw [mul_FI z1 false x 0 (by omega) (by decide) (by rw [Int.mul_zero]; decide), Int.mul_zero]
  show (double.mul (FI z2 y) (FI false 1)).bind _ = _
  rw [mul_FI z2 false y 1 (by omega) (by decide) (by omega), Int.mul_one]
  show (double.sub (FI _ 0) (FI _ y)).bind _ = _
  rw [sub_FI _ _ 0 y (by decide) (by omega) (by omega), Int.zero_sub]
  show (double.mul (FI z1 x) (FI false 1)).bind _ = _
  rw [mul_FI z1 false x 1 (by omega) (by decide) (by omega), Int.mul_one]
  show (double.mul (FI z2 y) (FI false 0)).bind _ = _
  rw [mul_FI z2 false y 0 (by omega) (by decide) (by rw [Int.mul_zero]; decide), Int.mul_zero]
  show (double.add (FI _ x) (FI _ 0)).bind _ = _
  rw [add_FI _ _ x 0 (by omega) (by decide) (by omega), Int.add_zero]
  rfl

theorem csub_FI (z1 z2 z3 z4 : Bool) (x y u v : Int) (hx : x.natAbs ≤ 1073741824) (hy : y.natAbs ≤ 1073741824) (hu : u.natAbs ≤ 1073741824) (hv : v.natAbs ≤ 1073741824) :
    ∃ z5 z6, cSumBits .sub .f64 (FI z1 x) (FI z2 y) (FI z3 u) (FI z4 v) = some (FI z5 (x - u), FI z6 (y - v)) := by
  have p : (2:Nat)^53 = 9007199254740992 := p53
  refine ⟨sg z1 x && !sg z3 u, sg z2 y && !sg z4 v, ?_⟩
  unfold cSumBits
  show (double.sub (FI z1 x) (FI z3 u)).bind _ = _
  rw [sub_FI z1 z3 x u (by omega) (by omega) (by omega)]
  show (double.sub (FI z2 y) (FI z4 v)).bind _ = _
  rw [sub_FI z2 z4 y v (by omega) (by omega) (by omega)]
  rfl

theorem cadd_FI (z1 z2 z3 z4 : Bool) (x y u v : Int) (hx : x.natAbs ≤ 1073741824) (hy : y.natAbs ≤ 1073741824) (hu : u.natAbs ≤ 1073741824) (hv : v.natAbs ≤ 1073741824) :
    ∃ z5 z6, cSumBits .add .f64 (FI z1 x) (FI z2 y) (FI z3 u) (FI z4 v) = some (FI z5 (x + u), FI z6 (y + v)) := by
  have p : (2:Nat)^53 = 9007199254740992 := p53
  refine ⟨sg z1 x && sg z3 u, sg z2 y && sg z4 v, ?_⟩
  unfold cSumBits
  show (double.add (FI z1 x) (FI z3 u)).bind _ = _
  rw [add_FI z1 z3 x u (by omega) (by omega) (by omega)]
  show (double.add (FI z2 y) (FI z4 v)).bind _ = _
  rw [add_FI z2 z4 y v (by omega) (by omega) (by omega)]
  rfl

/-- sums of plain whole numbers stay plain: nought has no sign -/
theorem cadd_fl (x y u v : Int) (hx : x.natAbs < 4503599627370496) (hy : y.natAbs < 4503599627370496) (hu : u.natAbs < 4503599627370496) (hv : v.natAbs < 4503599627370496) :
    cSumBits .add .f64 (fl x) (fl y) (fl u) (fl v) = some (fl (x + u), fl (y + v)) := by
  have p : (2:Nat)^53 = 9007199254740992 := p53
  have e : ∀ n m : Int, FI (sg false n && sg false m) (n + m) = fl (n + m) := fun n m => by
    rw [fl_FI]
    unfold FI
    by_cases h : n + m = 0
    · rw [h]
      have : (sg false n && sg false m) = false := by
        unfold sg
        by_cases h1 : n = 0
        · rw [if_pos h1]; rfl
        · rw [if_neg h1, if_neg (by omega)]
          by_cases h2 : n < 0
          · have : ¬ m < 0 := by omega
            simp [this]
          · simp [h2]
      rw [this]
    · have : sg (sg false n && sg false m) (n + m) = sg false (n + m) := by unfold sg; rw [if_neg h, if_neg h]
      rw [this]
  unfold cSumBits
  rw [fl_FI x, fl_FI y, fl_FI u, fl_FI v]
  show (double.add (FI false x) (FI false u)).bind _ = _
  rw [add_FI false false x u (by omega) (by omega) (by omega), e]
  show (double.add (FI false y) (FI false v)).bind _ = _
  rw [add_FI false false y v (by omega) (by omega) (by omega), e]
  rfl

/-! ### What is whole and in the plane -/
def inR (b : Nat) : Bool := (double.order b 13898108450065350656 == some .gt || double.order b 13898108450065350656 == some .eq) && (double.order b 4674736138332667904 == some .lt || double.order b 4674736138332667904 == some .eq)
def tr (b : Nat) : Int := ((double.read b).toInt .zero).getD 0
def truncW (b : Nat) : Nat := double.write ((double.read b).integral .zero)
def wh (b : Nat) : Bool := inR b && (double.order (fl (tr b)) b == some .eq)

theorem cut_zero (s : Bool) (n d : Nat) : Toward.zero.cut s n d = n / 2^d := by
  unfold Toward.cut
  simp only [Nat.shiftLeft_eq, Nat.one_mul, Bool.toNat_false, Nat.add_zero]
  by_cases h : d ≤ n.log2 + 2
  · rw [Nat.min_eq_left h]
  · rw [Nat.min_eq_right (by omega)]
    have h1 : n < 2^(n.log2 + 1) := Nat.lt_log2_self
    have h2 : 2^(n.log2 + 1) ≤ 2^(n.log2 + 2) := Nat.pow_le_pow_right (by omega) (by omega)
    have h3 : 2^(n.log2 + 1) ≤ 2^d := Nat.pow_le_pow_right (by omega) (by omega)
    rw [Nat.div_eq_of_lt (by omega), Nat.div_eq_of_lt (by omega)]

theorem bound_cut (m N p : Nat) (i : Int) (h : m * 2^(i - min i (-(p : Int))).toNat ≤ N * 2^p * 2^(-(p : Int) - min i (-(p : Int))).toNat) : (m <<< i.toNat) / 2^(-i).toNat ≤ N := by
  rw [Nat.shiftLeft_eq]
  by_cases hi : 0 ≤ i
  · obtain ⟨j, rfl⟩ := Int.eq_ofNat_of_zero_le hi
    have e1 : ((j : Int) - min (j : Int) (-(p : Int))).toNat = j + p := by omega
    have e2 : (-(p : Int) - min (j : Int) (-(p : Int))).toNat = 0 := by omega
    have e3 : (-(j : Int)).toNat = 0 := by omega
    rw [e1, e2, Nat.pow_zero, Nat.mul_one, Nat.pow_add, ← Nat.mul_assoc] at h
    rw [e3, Nat.pow_zero, Nat.div_one, Int.toNat_natCast]
    exact Nat.le_of_mul_le_mul_right h (Nat.two_pow_pos p)
  · obtain ⟨k, rfl⟩ : ∃ k : Nat, i = -(k : Int) := ⟨(-i).toNat, by omega⟩
    have e0 : (-(k : Int)).toNat = 0 := by omega
    have e4 : (- -(k : Int)).toNat = k := by omega
    rw [e0, e4, Nat.pow_zero, Nat.mul_one]
    refine Nat.le_trans (Nat.div_le_div_right (c := 2^k) (?_ : m ≤ N * 2^k)) (by rw [Nat.mul_div_cancel _ (Nat.two_pow_pos _)]; exact Nat.le_refl _)
    by_cases hk : k ≤ p
    · have e1 : (-(k : Int) - min (-(k : Int)) (-(p : Int))).toNat = p - k := by omega
      have e2 : (-(p : Int) - min (-(k : Int)) (-(p : Int))).toNat = 0 := by omega
      rw [e1, e2, Nat.pow_zero, Nat.mul_one] at h
      have e5 : N * 2^p = N * 2^k * 2^(p - k) := by rw [Nat.mul_assoc, ← Nat.pow_add]; congr 2; omega
      rw [e5] at h
      exact Nat.le_of_mul_le_mul_right h (Nat.two_pow_pos _)
    · have e1 : (-(k : Int) - min (-(k : Int)) (-(p : Int))).toNat = 0 := by omega
      have e2 : (-(p : Int) - min (-(k : Int)) (-(p : Int))).toNat = k - p := by omega
      rw [e1, e2, Nat.pow_zero, Nat.mul_one, Nat.mul_assoc, ← Nat.pow_add] at h
      have e5 : p + (k - p) = k := by omega
      rwa [e5] at h

theorem order_comm (d e : Datum) : d.order e = some .eq ↔ e.order d = some .eq := by
  have hc : ∀ a b : Int, compare a b = .eq ↔ a = b := fun a b => by
    constructor
    · intro h
      rcases Int.lt_trichotomy a b with h1 | h1 | h1
      · rw [cmp_lt h1] at h; cases h
      · exact h1
      · rw [cmp_gt h1] at h; cases h
    · exact cmp_eq
  have hn : ∀ a b : Nat, compare a b = .eq ↔ a = b := fun a b => Nat.compare_eq_eq
  cases d <;> cases e <;> simp only [Datum.order, Option.some.injEq, reduceCtorEq]
  · rename_i s m i t n j
    rw [hc, hc, Int.min_comm i j]
    exact eq_comm
  · rename_i s m i t; cases t <;> simp
  · rename_i s t n j; cases s <;> simp
  · rename_i s t
    rw [hn, hn]
    exact eq_comm

theorem read_lo : double.read 13898108450065350656 = .number true (32768 * 2^37) (-(37 : Nat)) := by decide +kernel
theorem read_hi : double.read 4674736138332667904 = .number false (32767 * 2^38) (-(38 : Nat)) := by decide +kernel

theorem inR_number (b : Nat) (h : inR b = true) : ∃ s m i, double.read b = .number s m i := by
  unfold inR Format.order at h
  rw [read_lo, read_hi] at h
  cases hb : double.read b with
  | number s m i => exact ⟨s, m, i, rfl⟩
  | infinity s => rw [hb] at h; cases s <;> simp [Datum.order] at h
  | nan s f => rw [hb] at h; simp [Datum.order] at h

theorem inR_spec (b : Nat) (h : inR b = true) : -32768 ≤ tr b ∧ tr b ≤ 32767 ∧ (double.read b).toInt .zero = some (tr b) ∧ (double.order b (truncW b) = some .eq ↔ double.order (fl (tr b)) b = some .eq) := by
  obtain ⟨s, m, i, hb⟩ := inR_number b h
  have ht : (double.read b).toInt .zero = some (si s ((m <<< i.toNat) / 2^(-i).toNat)) := by
    rw [hb]
    simp only [Datum.toInt, Datum.integral, cut_zero, signed_eq, Int.pow_zero, Int.mul_one]
  have htr : tr b = si s ((m <<< i.toNat) / 2^(-i).toNat) := by unfold tr; rw [ht]; rfl
  have hTW : truncW b = fw s ((m <<< i.toNat) / 2^(-i).toNat) 0 := by
    unfold truncW fw
    rw [hb]
    simp only [Datum.integral, cut_zero, Format.write]
  unfold inR Format.order at h
  rw [read_lo, read_hi, hb] at h
  simp only [Datum.order, Bool.and_eq_true, Bool.or_eq_true, beq_iff_eq, Option.some.injEq] at h
  obtain ⟨hlo, hhi⟩ := h
  have hb1 : s = true → (m <<< i.toNat) / 2^(-i).toNat ≤ 32768 := fun hs => by
    refine bound_cut m 32768 37 i ?_
    rw [hs, signed_eq, signed_eq] at hlo
    simp only [si, if_true, Int.neg_mul] at hlo
    have h1 : ¬ (-((m : Int) * 2^(i - min i (-((37 : Nat) : Int))).toNat) < -(((32768 * 2^37 : Nat) : Int) * 2^(-((37 : Nat) : Int) - min i (-((37 : Nat) : Int))).toNat)) := fun hlt => by
      rw [cmp_lt hlt] at hlo
      simp at hlo
    have h2 : (m : Int) * 2^(i - min i (-((37 : Nat) : Int))).toNat ≤ ((32768 * 2^37 : Nat) : Int) * 2^(-((37 : Nat) : Int) - min i (-((37 : Nat) : Int))).toNat := by omega
    exact_mod_cast h2
  have hb2 : s = false → (m <<< i.toNat) / 2^(-i).toNat ≤ 32767 := fun hs => by
    refine bound_cut m 32767 38 i ?_
    rw [hs, signed_eq, signed_eq] at hhi
    simp only [si, Bool.false_eq_true, if_false] at hhi
    have h1 : ¬ (((32767 * 2^38 : Nat) : Int) * 2^(-((38 : Nat) : Int) - min i (-((38 : Nat) : Int))).toNat < (m : Int) * 2^(i - min i (-((38 : Nat) : Int))).toNat) := fun hlt => by
      rw [cmp_gt hlt] at hhi
      simp at hhi
    have h2 : (m : Int) * 2^(i - min i (-((38 : Nat) : Int))).toNat ≤ ((32767 * 2^38 : Nat) : Int) * 2^(-((38 : Nat) : Int) - min i (-((38 : Nat) : Int))).toNat := by omega
    exact_mod_cast h2
  generalize (m <<< i.toNat) / 2^(-i).toNat = q at *
  have hq : q ≤ 32768 := by
    cases s
    · exact Nat.le_trans (hb2 rfl) (by decide)
    · exact hb1 rfl
  have h53 : (2:Nat)^53 = 9007199254740992 := p53
  refine ⟨?_, ?_, by rw [ht, htr], ?_⟩
  · rw [htr]; unfold si; cases s <;> simp only [Bool.false_eq_true, if_false, if_true] <;> omega
  · rw [htr]; unfold si; cases s <;> simp only [Bool.false_eq_true, if_false, if_true]
    · have := hb2 rfl; omega
    · omega
  · rw [hTW, htr]
    unfold fl Format.order
    rw [order_comm]
    have e1 : (si s q).natAbs = q := by unfold si; cases s <;> simp
    rw [e1]
    rcases Nat.eq_zero_or_pos q with rfl | hpos
    · rw [fw_zero, fw_zero, read_word_lo _ _ (by omega), read_word_lo _ _ (by omega), hb]
      simp only [Datum.order, signed_eq, si]
      cases s <;> simp
    · have e2 : decide (si s q < 0) = s := by
        unfold si; cases s
        · simp
        · simp; omega
      rw [e2]

theorem wh_spec (b : Nat) (h : inR b = true) : (double.order b (truncW b) != some .eq) = !(wh b) := by
  have h1 := (inR_spec b h).2.2.2
  unfold wh
  rw [h, Bool.true_and]
  by_cases h2 : double.order b (truncW b) = some .eq
  · rw [h2, h1.1 h2]; rfl
  · have h3 : ¬ double.order (fl (tr b)) b = some .eq := fun k => h2 (h1.2 k)
    rw [bne_iff_ne .. |>.2 h2, beq_eq_false_iff_ne.2 h3]; rfl

/-- what From makes of a whole number's word -/
theorem wh_FI (z : Bool) (n : Int) (h : n.natAbs ≤ 1073741824) : inR (FI z n) = decide (-32768 ≤ n ∧ n ≤ 32767) ∧ (double.read (FI z n)).toInt .zero = some n ∧ wh (FI z n) = decide (-32768 ≤ n ∧ n ≤ 32767) := by
  have h53 : (2:Nat)^53 = 9007199254740992 := p53
  have h1 : inR (FI z n) = decide (-32768 ≤ n ∧ n ≤ 32767) := by
    unfold inR
    rw [lo_FI, hi_FI, order_FI z false n (-32768) (by omega) (by decide), order_FI z false n 32767 (by omega) (by decide)]
    have c1 : (some (compare n (-32768)) == some Ordering.gt || some (compare n (-32768)) == some Ordering.eq) = decide (-32768 ≤ n) := by
      rcases Int.lt_trichotomy n (-32768) with a | a | a
      · rw [cmp_lt a, decide_eq_false (by omega)]; rfl
      · rw [cmp_eq a, decide_eq_true (by omega)]; rfl
      · rw [cmp_gt a, decide_eq_true (by omega)]; rfl
    have c2 : (some (compare n 32767) == some Ordering.lt || some (compare n 32767) == some Ordering.eq) = decide (n ≤ 32767) := by
      rcases Int.lt_trichotomy n 32767 with a | a | a
      · rw [cmp_lt a, decide_eq_true (by omega)]; rfl
      · rw [cmp_eq a, decide_eq_true (by omega)]; rfl
      · rw [cmp_gt a, decide_eq_false (by omega)]; rfl
    rw [c1, c2, Bool.decide_and]
  have h2 : (double.read (FI z n)).toInt .zero = some n := by
    unfold FI
    obtain ⟨p, hp⟩ := read_fw (sg z n) n.natAbs 0 (by omega) (by omega) (by omega)
    rw [hp]
    simp only [Datum.toInt, Datum.integral, cut_zero, signed_eq, Int.pow_zero, Int.mul_one]
    have e1 : (0 - (p : Int)).toNat = 0 := by omega
    have e2 : (-(0 - (p : Int))).toNat = p := by omega
    rw [e1, e2, Nat.shiftLeft_eq, Nat.pow_zero, Nat.mul_one, Nat.mul_div_cancel _ (Nat.two_pow_pos _), si_sg]
  refine ⟨h1, h2, ?_⟩
  unfold wh tr
  rw [h1, h2, Option.getD_some, fl_FI, order_FI false z n n (by omega) (by omega), cmp_eq rfl]
  simp
end Go.Proofs.Ytilimgjmiijkiaa
