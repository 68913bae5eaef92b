/- Plain arithmetic of double words: whole numbers (and quarters) are added, taken off and multiplied exactly; words stand to each other as their rungs do; what is doubled. -/
import Ieee.Arith
import GoSem.Core.Float
namespace Go.Proofs.Ytilimgjmiijkiaa
open Ieee

/-- the word of N * 2 ^ e with a sign -/
def fw (s : Bool) (N : Nat) (e : Int) : Nat := double.nearest s N e

theorem pow52 : double.binade = 4503599627370496 := by decide
theorem fb52 : double.fractionBits = 52 := rfl
theorem lp : double.leastPlace = -1074 := by decide
theorem infR : double.infRung = 2047 * 4503599627370496 := by decide
theorem sw : double.signWeight = 9223372036854775808 := by decide
theorem p52 : (2:Nat)^52 = 4503599627370496 := by decide
theorem p53 : (2:Nat)^53 = 9007199254740992 := by decide

theorem log2_mul_pow (N p : Nat) (h : 0 < N) : (N * 2^p).log2 = N.log2 + p := by
  induction p with
  | zero => simp
  | succ p ih =>
    rw [Nat.pow_succ, ← Nat.mul_assoc, Nat.mul_comm _ 2, Nat.log2_two_mul (by have := Nat.mul_pos h (Nat.two_pow_pos p); omega), ih]; omega

theorem mant_bounds (N : Nat) (h0 : 0 < N) (h : N < 2^53) : N.log2 ≤ 52 ∧ 2^52 ≤ N * 2^(52 - N.log2) ∧ N * 2^(52 - N.log2) < 2^53 := by
  have hL : N.log2 < 53 := (Nat.log2_lt (by omega)).2 h
  have hself : 2^N.log2 ≤ N := Nat.log2_self_le (by omega)
  have hmag : N < 2^(N.log2+1) := Nat.lt_log2_self
  refine ⟨by omega, ?_, ?_⟩
  · calc 2^52 = 2^N.log2 * 2^(52 - N.log2) := by rw [← Nat.pow_add]; congr 1; omega
      _ ≤ _ := Nat.mul_le_mul_right _ hself
  · calc N * 2^(52 - N.log2) < 2^(N.log2+1) * 2^(52 - N.log2) := Nat.mul_lt_mul_of_pos_right hmag (Nat.two_pow_pos _)
      _ = 2^53 := by rw [← Nat.pow_add]; congr 1; omega

theorem nearest_val (s : Bool) (N p : Nat) (e : Int) (he1 : -60 ≤ e) (he2 : e ≤ 60) (h0 : 0 < N) (h : N < 2^53) :
    double.nearest s (N * 2^p) (e - p) = double.word s (((N.log2 : Int) + e + 1022).toNat * 2^52 + N * 2^(52 - N.log2)) := by
  obtain ⟨hL, hlo, hup⟩ := mant_bounds N h0 h
  have hne : N * 2^p ≠ 0 := by have := Nat.mul_pos h0 (Nat.two_pow_pos p); omega
  have hlast : max ((e - p) + ((N * 2^p).log2 : Nat) - (double.fractionBits : Nat)) double.leastPlace = (N.log2 : Int) + e - 52 := by
    rw [log2_mul_pow N p h0, lp, fb52]; omega
  unfold Format.nearest
  rw [if_neg hne]
  simp only [hlast]
  have hcut : Toward.even.cut s ((N * 2^p) <<< ((e - p) - ((N.log2 : Int) + e - 52)).toNat) (((N.log2 : Int) + e - 52) - (e - p)).toNat = N * 2^(52 - N.log2) := by
    by_cases hp : p ≤ 52 - N.log2
    · have e1 : ((e - p) - ((N.log2 : Int) + e - 52)).toNat = 52 - N.log2 - p := by omega
      have e2 : (((N.log2 : Int) + e - 52) - (e - p)).toNat = 0 := by omega
      rw [e1, e2, Nat.shiftLeft_eq, Nat.mul_assoc, ← Nat.pow_add]
      have e3 : p + (52 - N.log2 - p) = 52 - N.log2 := by omega
      rw [e3]
      simp [Toward.cut, Nat.mod_one]
    · have e1 : ((e - p) - ((N.log2 : Int) + e - 52)).toNat = 0 := by omega
      have e2 : (((N.log2 : Int) + e - 52) - (e - p)).toNat = p - (52 - N.log2) := by omega
      rw [e1, e2, Nat.shiftLeft_eq, Nat.pow_zero, Nat.mul_one]
      have e3 : N * 2^p = N * 2^(52 - N.log2) * 2^(p - (52 - N.log2)) := by
        rw [Nat.mul_assoc, ← Nat.pow_add]; congr 2; omega
      have e4 : min (p - (52 - N.log2)) ((N * 2^p).log2 + 2) = p - (52 - N.log2) := by
        rw [log2_mul_pow N p h0]; omega
      unfold Toward.cut
      simp only [e4]
      rw [Nat.shiftLeft_eq, Nat.one_mul, e3, Nat.mul_div_cancel _ (Nat.two_pow_pos _), Nat.mul_mod_left]
      simp
  rw [hcut, lp, infR, pow52]
  have e5 : ((N.log2 : Int) + e - 52 - -1074).toNat = ((N.log2 : Int) + e + 1022).toNat := by congr 1; omega
  rw [e5, p52]
  rw [p52] at hlo
  rw [p53] at hup
  have e6 : min (((N.log2 : Int) + e + 1022).toNat * 4503599627370496 + N * 2^(52 - N.log2)) (2047 * 4503599627370496) = ((N.log2 : Int) + e + 1022).toNat * 4503599627370496 + N * 2^(52 - N.log2) := by
    apply Nat.min_eq_left
    generalize N * 2^(52 - N.log2) = K at *
    generalize N.log2 = L at *
    omega
  rw [e6]

theorem fw_pos (s : Bool) (N : Nat) (e : Int) (he1 : -60 ≤ e) (he2 : e ≤ 60) (h0 : 0 < N) (h : N < 2^53) : fw s N e = double.word s (((N.log2 : Int) + e + 1022).toNat * 2^52 + N * 2^(52 - N.log2)) := by
  have := nearest_val s N 0 e he1 he2 h0 h
  simpa [fw] using this

theorem nearest_fw (s : Bool) (N p : Nat) (e : Int) (he1 : -60 ≤ e) (he2 : e ≤ 60) (h : N < 2^53) : double.nearest s (N * 2^p) (e - p) = fw s N e := by
  rcases Nat.eq_zero_or_pos N with rfl | h0
  · simp [fw, Format.nearest]
  · rw [nearest_val s N p e he1 he2 h0 h, fw_pos s N e he1 he2 h0 h]

/-- the same number in smaller units -/
theorem fw_units (s : Bool) (N p : Nat) (e : Int) (he1 : -60 ≤ e) (he2 : e ≤ 60) (h : N < 2^53) : fw s (N * 2^p) (e - p) = fw s N e := nearest_fw s N p e he1 he2 h

theorem fw_zero (s : Bool) (e : Int) : fw s 0 e = double.word s 0 := by simp [fw, Format.nearest]

theorem read_word_lo (s : Bool) (r : Nat) (h : r < 4503599627370496) : double.read (double.word s r) = .number s r (-1074) := by
  unfold Format.read Format.word
  simp only [sw, pow52, infR, lp]
  cases s
  · simp only [Bool.false_eq_true, if_false]
    rw [if_pos (by omega)]
    have : r / 9223372036854775808 = 0 := by omega
    rw [this]
    have e : r % 9223372036854775808 = r := by omega
    rw [e]; rfl
  · simp only [if_true]
    rw [if_pos (by omega)]
    have : (9223372036854775808 + r) / 9223372036854775808 = 1 := by omega
    rw [this]
    have e : (9223372036854775808 + r) % 9223372036854775808 = r := by omega
    rw [e]; rfl

theorem read_word_hi (s : Bool) (r : Nat) (h0 : 4503599627370496 ≤ r) (h : r < 2047 * 4503599627370496) :
    double.read (double.word s r) = .number s (4503599627370496 + r % 4503599627370496) (-1074 + (r / 4503599627370496 - 1 : Nat)) := by
  unfold Format.read Format.word
  simp only [sw, pow52, infR, lp]
  cases s
  · simp only [Bool.false_eq_true, if_false]
    have e : r % 9223372036854775808 = r := by omega
    rw [e, if_neg (by omega), if_pos (by omega)]
    have : r / 9223372036854775808 = 0 := by omega
    rw [this]; rfl
  · simp only [if_true]
    have e : (9223372036854775808 + r) % 9223372036854775808 = r := by omega
    rw [e, if_neg (by omega), if_pos (by omega)]
    have : (9223372036854775808 + r) / 9223372036854775808 = 1 := by omega
    rw [this]; rfl

theorem read_word_inf (s : Bool) : double.read (double.word s (2047 * 4503599627370496)) = .infinity s := by cases s <;> decide +kernel

theorem read_fw_pos (s : Bool) (N : Nat) (e : Int) (he1 : -60 ≤ e) (he2 : e ≤ 60) (h0 : 0 < N) (h : N < 2^53) : double.read (fw s N e) = .number s (N * 2^(52 - N.log2)) ((N.log2 : Int) + e - 52) := by
  obtain ⟨hL, hlo, hup⟩ := mant_bounds N h0 h
  rw [fw_pos s N e he1 he2 h0 h, p52]
  rw [p52] at hlo
  rw [p53] at hup
  generalize hk : N * 2^(52 - N.log2) = K at *
  generalize N.log2 = L at *
  rw [read_word_hi s _ (by omega) (by omega)]
  congr 1 <;> omega

/-- each such word reads as a number of that worth, at a place not above e -/
theorem read_fw (s : Bool) (N : Nat) (e : Int) (he1 : -60 ≤ e) (he2 : e ≤ 60) (h : N < 2^53) : ∃ p : Nat, double.read (fw s N e) = .number s (N * 2^p) (e - p) := by
  rcases Nat.eq_zero_or_pos N with rfl | h0
  · exact ⟨(e + 1074).toNat, by rw [fw_zero, read_word_lo s 0 (by omega), Nat.zero_mul]; congr 1; omega⟩
  · obtain ⟨hL, _⟩ := mant_bounds N h0 h
    exact ⟨52 - N.log2, by rw [read_fw_pos s N e he1 he2 h0 h]; congr 1; omega⟩

/-- the whole number that a sign and a size are -/
def si (s : Bool) (N : Nat) : Int := if s then -(N : Int) else N

theorem signed_eq (s : Bool) (m k : Nat) : signed s m k = si s m * 2^k := by
  unfold signed si
  cases s <;> simp [Nat.shiftLeft_eq, Int.neg_mul]

theorem si_mul_pow (s : Bool) (N p : Nat) : si s (N * 2^p) = si s N * 2^p := by
  unfold si; cases s <;> simp [Int.neg_mul]

theorem total_eq (s t : Bool) (N M p q : Nat) (e : Int) (b : Int) (hb : b = min (e - p) (e - q)) :
    signed s (N * 2^p) ((e - p) - b).toNat + signed t (M * 2^q) ((e - q) - b).toNat = (si s N + si t M) * 2^(max p q) := by
  have e1 : ((e - p) - b).toNat = max p q - p := by omega
  have e2 : ((e - q) - b).toNat = max p q - q := by omega
  rw [signed_eq, signed_eq, e1, e2, si_mul_pow, si_mul_pow, Int.mul_assoc, Int.mul_assoc, ← Int.pow_add, ← Int.pow_add, Int.add_mul]
  congr 3 <;> omega

theorem add_fw (s t : Bool) (N M : Nat) (e : Int) (he1 : -60 ≤ e) (he2 : e ≤ 60) (hN : N < 2^53) (hM : M < 2^53) (hZ : (si s N + si t M).natAbs < 2^53) :
    double.add (fw s N e) (fw t M e) = some (fw (if si s N + si t M = 0 then s && t else decide (si s N + si t M < 0)) (si s N + si t M).natAbs e) := by
  obtain ⟨p, hp⟩ := read_fw s N e he1 he2 hN
  obtain ⟨q, hq⟩ := read_fw t M e he1 he2 hM
  unfold Format.add
  rw [hp, hq]
  simp only [Datum.sum, Option.map_some, Format.write]
  rw [total_eq s t N M p q e _ rfl]
  have hpos : (0 : Int) < 2^(max p q) := Int.pow_pos (by decide)
  have hz : (si s N + si t M) * 2^(max p q) = 0 ↔ si s N + si t M = 0 := by
    rw [Int.mul_eq_zero]; constructor
    · rintro (h | h)
      · exact h
      · omega
    · exact fun h => .inl h
  have hneg : ((si s N + si t M) * 2^(max p q) < 0) ↔ si s N + si t M < 0 := by
    constructor
    · intro h; by_cases h2 : si s N + si t M < 0
      · exact h2
      · have := Int.mul_nonneg (show 0 ≤ si s N + si t M by omega) (Int.le_of_lt hpos); omega
    · intro h; exact Int.mul_neg_of_neg_of_pos h hpos
  simp only [hz, hneg]
  have habs : ((si s N + si t M) * 2^(max p q)).natAbs = (si s N + si t M).natAbs * 2^(max p q) := by
    rw [Int.natAbs_mul, Int.natAbs_pow]; rfl
  rw [habs]
  have hb : min (e - (p : Int)) (e - (q : Int)) = e - ((max p q : Nat) : Int) := by omega
  rw [hb, nearest_fw _ _ _ _ he1 he2 hZ]

theorem opp_read_fw (t : Bool) (M : Nat) (e : Int) (he1 : -60 ≤ e) (he2 : e ≤ 60) (hM : M < 2^53) : (double.read (fw t M e)).opposite = double.read (fw (!t) M e) := by
  rcases Nat.eq_zero_or_pos M with rfl | h0
  · rw [fw_zero, fw_zero, read_word_lo _ _ (by omega), read_word_lo _ _ (by omega)]; rfl
  · rw [read_fw_pos t M e he1 he2 h0 hM, read_fw_pos (!t) M e he1 he2 h0 hM]; rfl

theorem sub_fw (s t : Bool) (N M : Nat) (e : Int) (he1 : -60 ≤ e) (he2 : e ≤ 60) (hN : N < 2^53) (hM : M < 2^53) (hZ : (si s N + si (!t) M).natAbs < 2^53) :
    double.sub (fw s N e) (fw t M e) = some (fw (if si s N + si (!t) M = 0 then s && !t else decide (si s N + si (!t) M < 0)) (si s N + si (!t) M).natAbs e) := by
  have h := add_fw s (!t) N M e he1 he2 hN hM hZ
  unfold Format.add at h
  unfold Format.sub
  rw [opp_read_fw t M e he1 he2 hM]
  exact h

theorem mul_fw (s t : Bool) (N M : Nat) (hN : N < 2^53) (hM : M < 2^53) (hZ : N * M < 2^53) :
    double.mul (fw s N 0) (fw t M 0) = some (fw (s ^^ t) (N * M) 0) := by
  obtain ⟨p, hp⟩ := read_fw s N 0 (by omega) (by omega) hN
  obtain ⟨q, hq⟩ := read_fw t M 0 (by omega) (by omega) hM
  unfold Format.mul
  rw [hp, hq]
  simp only [Datum.product, Option.map_some, Format.write]
  have e : N * 2^p * (M * 2^q) = N * M * 2^(p + q) := by rw [Nat.pow_add]; ac_rfl
  have e2 : (0 : Int) - (p : Int) + (0 - (q : Int)) = 0 - ((p + q : Nat) : Int) := by omega
  rw [e, e2, nearest_fw _ _ _ _ (by omega) (by omega) hZ]

theorem cmp_mul (a b : Int) (c : Int) (hpos : 0 < c) : compare (a * c) (b * c) = compare a b := by
  simp only [compare, compareOfLessAndEq]
  have h1 : a * c < b * c ↔ a < b := ⟨fun h => Int.lt_of_mul_lt_mul_right h (by omega), fun h => Int.mul_lt_mul_of_pos_right h hpos⟩
  have h2 : a * c = b * c ↔ a = b := ⟨fun h => Int.eq_of_mul_eq_mul_right (by omega) h, fun h => by rw [h]⟩
  simp only [h1, h2]

theorem order_fw (s t : Bool) (N M : Nat) (e : Int) (he1 : -60 ≤ e) (he2 : e ≤ 60) (hN : N < 2^53) (hM : M < 2^53) :
    double.order (fw s N e) (fw t M e) = some (compare (si s N) (si t M)) := by
  obtain ⟨p, hp⟩ := read_fw s N e he1 he2 hN
  obtain ⟨q, hq⟩ := read_fw t M e he1 he2 hM
  unfold Format.order
  rw [hp, hq]
  simp only [Datum.order]
  have e1 : (e - (p : Int) - min (e - (p : Int)) (e - (q : Int))).toNat = max p q - p := by omega
  have e2 : (e - (q : Int) - min (e - (p : Int)) (e - (q : Int))).toNat = max p q - q := by omega
  rw [signed_eq, signed_eq, e1, e2, si_mul_pow, si_mul_pow, Int.mul_assoc, Int.mul_assoc, ← Int.pow_add, ← Int.pow_add]
  have e3 : p + (max p q - p) = max p q := by omega
  have e4 : q + (max p q - q) = max p q := by omega
  rw [e3, e4, cmp_mul _ _ _ (Int.pow_pos (by decide))]

/-! ### Rungs -/
/-- a rung's size, in units of the least place -/
def rv (r : Nat) : Nat := if r < 4503599627370496 then r else (4503599627370496 + r % 4503599627370496) * 2^(r / 4503599627370496 - 1)

theorem rv_succ (r : Nat) : rv r < rv (r + 1) := by
  unfold rv
  by_cases h1 : r + 1 < 4503599627370496
  · rw [if_pos h1, if_pos (by omega)]; omega
  · rw [if_neg h1]
    by_cases h2 : r < 4503599627370496
    · rw [if_pos h2]
      have : r = 4503599627370495 := by omega
      subst this; decide
    · rw [if_neg h2]
      by_cases h3 : r % 4503599627370496 = 4503599627370495
      · have e1 : (r + 1) % 4503599627370496 = 0 := by omega
        have e2 : (r + 1) / 4503599627370496 - 1 = (r / 4503599627370496 - 1) + 1 := by omega
        rw [e1, e2, Nat.pow_succ, h3]
        have := Nat.two_pow_pos (r / 4503599627370496 - 1)
        omega
      · have e1 : (r + 1) % 4503599627370496 = r % 4503599627370496 + 1 := by omega
        have e2 : (r + 1) / 4503599627370496 = r / 4503599627370496 := by omega
        rw [e1, e2]
        exact Nat.mul_lt_mul_of_pos_right (by omega) (Nat.two_pow_pos _)

theorem rv_mono {r q : Nat} (h : r < q) : rv r < rv q := by
  induction q with
  | zero => omega
  | succ q ih =>
    rcases Nat.lt_or_ge r q with h' | h'
    · exact Nat.lt_trans (ih h') (rv_succ q)
    · have : r = q := by omega
      subst this; exact rv_succ r

theorem read_word_rv (s : Bool) (r : Nat) (h : r < 2047 * 4503599627370496) : ∃ m k : Nat, double.read (double.word s r) = .number s m (-1074 + (k : Int)) ∧ m * 2^k = rv r := by
  by_cases h0 : r < 4503599627370496
  · exact ⟨r, 0, by rw [read_word_lo s r h0]; rfl, by simp [rv, h0]⟩
  · exact ⟨_, _, read_word_hi s r (by omega) h, by simp [rv, h0]⟩

theorem cmp_congr {a b c d : Int} (h1 : a < b ↔ c < d) (h2 : a = b ↔ c = d) : compare a b = compare c d := by
  simp only [compare, compareOfLessAndEq]
  by_cases h : a < b
  · rw [if_pos h, if_pos (h1.1 h)]
  · rw [if_neg h, if_neg (fun k => h (h1.2 k))]
    by_cases h' : a = b
    · rw [if_pos h', if_pos (h2.1 h')]
    · rw [if_neg h', if_neg (fun k => h' (h2.2 k))]

theorem cmp_lt {a b : Int} (h : a < b) : compare a b = .lt := by simp only [compare, compareOfLessAndEq]; rw [if_pos h]
theorem cmp_gt {a b : Int} (h : b < a) : compare a b = .gt := by simp only [compare, compareOfLessAndEq]; rw [if_neg (by omega), if_neg (by omega)]
theorem cmp_eq {a b : Int} (h : a = b) : compare a b = .eq := by simp only [compare, compareOfLessAndEq]; rw [if_neg (by omega), if_pos h]

theorem cmp_si (s t : Bool) (r q : Nat) : compare (si s (rv r)) (si t (rv q)) = compare (si s r) (si t q) := by
  have z : rv 0 = 0 := by simp [rv]
  have hp : ∀ r, 0 < r → 0 < rv r := fun r h => by have := rv_mono h; omega
  have hr := hp r
  have hq := hp q
  have hlt : r < q → rv r < rv q := rv_mono
  have hgt : q < r → rv q < rv r := rv_mono
  have heq : r = q → rv r = rv q := fun h => by rw [h]
  have zr : r = 0 → rv r = 0 := fun h => by rw [h, z]
  have zq : q = 0 → rv q = 0 := fun h => by rw [h, z]
  generalize rv r = R at *
  generalize rv q = Q at *
  unfold si
  refine cmp_congr ?_ ?_
  · cases s <;> cases t <;> simp only [Bool.false_eq_true, if_false, if_true] <;> omega
  · cases s <;> cases t <;> simp only [Bool.false_eq_true, if_false, if_true] <;> omega

/-- words stand to each other as their signed rungs -/
theorem order_word (s t : Bool) (r q : Nat) (hr : r ≤ 2047 * 4503599627370496) (hq : q ≤ 2047 * 4503599627370496) :
    double.order (double.word s r) (double.word t q) = some (compare (si s r) (si t q)) := by
  unfold Format.order
  rcases Nat.lt_or_ge r (2047 * 4503599627370496) with h1 | h1
  · obtain ⟨m, k, hm, hmk⟩ := read_word_rv s r h1
    rw [hm]
    rcases Nat.lt_or_ge q (2047 * 4503599627370496) with h2 | h2
    · obtain ⟨n, l, hn, hnl⟩ := read_word_rv t q h2
      rw [hn]
      simp only [Datum.order]
      rw [signed_eq, signed_eq]
      have e1 : (-1074 + (k : Int) - min (-1074 + (k : Int)) (-1074 + (l : Int))).toNat = k - min k l := by omega
      have e2 : (-1074 + (l : Int) - min (-1074 + (k : Int)) (-1074 + (l : Int))).toNat = l - min k l := by omega
      rw [e1, e2, ← cmp_si, ← hmk, ← hnl, ← cmp_mul _ _ (2^(min k l)) (Int.pow_pos (by decide)), si_mul_pow, si_mul_pow, Int.mul_assoc, Int.mul_assoc, ← Int.pow_add, ← Int.pow_add]
      have e3 : k - min k l + min k l = k := by omega
      have e4 : l - min k l + min k l = l := by omega
      rw [e3, e4]
    · have : q = 2047 * 4503599627370496 := by omega
      subst this
      rw [read_word_inf]
      simp only [Datum.order, si]
      generalize 2047 * 4503599627370496 = I at *
      cases s <;> cases t <;> simp only [Bool.false_eq_true, if_false, if_true] <;> first | rw [cmp_lt (by omega)] | rw [cmp_gt (by omega)]
  · have : r = 2047 * 4503599627370496 := by omega
    subst this
    rw [read_word_inf]
    rcases Nat.lt_or_ge q (2047 * 4503599627370496) with h2 | h2
    · obtain ⟨n, l, hn, hnl⟩ := read_word_rv t q h2
      rw [hn]
      simp only [Datum.order, si]
      generalize 2047 * 4503599627370496 = I at *
      cases s <;> cases t <;> simp only [Bool.false_eq_true, if_false, if_true] <;> first | rw [cmp_lt (by omega)] | rw [cmp_gt (by omega)]
    · have : q = 2047 * 4503599627370496 := by omega
      subst this
      rw [read_word_inf]
      simp only [Datum.order, si]
      have hI : 0 < 2047 * 4503599627370496 := by decide
      generalize 2047 * 4503599627370496 = I at *
      cases s <;> cases t <;> simp only [Bool.false_eq_true, if_false, if_true] <;> first | (rw [cmp_lt (by omega)]; rfl) | (rw [cmp_gt (by omega)]; rfl) | (rw [cmp_eq (by omega)]; rfl)
end Go.Proofs.Ytilimgjmiijkiaa
