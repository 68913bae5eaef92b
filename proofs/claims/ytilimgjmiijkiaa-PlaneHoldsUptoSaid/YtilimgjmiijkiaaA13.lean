/- Contracts of plane and of the reference, 13: means. -/
import Derived.Test.YtilimgjmiijkiaaA6
import Derived.Lib.Hide
namespace Go.Proofs.Ytilimgjmiijkiaa
open Go.RowKit Ieee
attribute [local go_sem] BW.cell BW.frozen

/-- a slice that reads as points, below block B -/
def PRd (w : World) (B : Nat) (A : Option Addr) (n : Nat) (xs : List (Int × Int)) : Prop :=
  xs.length = n ∧ (∀ p ∈ xs, -32768 ≤ p.1 ∧ p.1 ≤ 32767 ∧ -32768 ≤ p.2 ∧ p.2 ≤ 32767) ∧
  (0 < n → ∃ b off, A = some ⟨b, off, none⟩ ∧ b < B ∧ ∀ i p, xs[i]? = some p → w.cell? ⟨b, off + i * 2, none⟩ = some (.int .i16 p.1) ∧ w.cell? ⟨b, off + i * 2 + 1, none⟩ = some (.int .i16 p.2))

theorem PRd.keep {w w' : World} {B : Nat} {A : Option Addr} {n : Nat} {xs : List (Int × Int)} (h : PRd w B A n xs) (hk : ∀ p : Addr, p.block < B → w'.cell? p = w.cell? p) : PRd w' B A n xs := by
  refine ⟨h.1, h.2.1, fun hn => ?_⟩
  obtain ⟨b, off, e, hb, hc⟩ := h.2.2 hn
  exact ⟨b, off, e, hb, fun i p hp => ⟨(hk _ hb).trans (hc i p hp).1, (hk _ hb).trans (hc i p hp).2⟩⟩
theorem PRd.below {w w' : World} {B : Nat} {A : Option Addr} {n : Nat} {xs : List (Int × Int)} (h : PRd w B A n xs) (hb : Below B w w') : PRd w' B A n xs := h.keep fun _ hp => hb.cell hp

def sX (xs : List (Int × Int)) : Int := (xs.map (·.1)).sum
def sY (xs : List (Int × Int)) : Int := (xs.map (·.2)).sum
/-- a quotient of whole numbers -/
def dv (x n : Int) : Nat := (double.div (fl x) (fl n)).getD 0

theorem sum_snoc (xs : List (Int × Int)) (k : Nat) (p : Int × Int) (h : xs[k]? = some p) : sX (xs.take (k + 1)) = sX (xs.take k) + p.1 ∧ sY (xs.take (k + 1)) = sY (xs.take k) + p.2 := by
  have hk : k < xs.length := (List.getElem?_eq_some_iff.1 h).1
  have e : xs.take (k + 1) = xs.take k ++ [p] := by
    rw [List.take_add_one, h]; rfl
  unfold sX sY
  rw [e]
  simp

theorem sum_bd (xs : List (Int × Int)) (h : ∀ p ∈ xs, -32768 ≤ p.1 ∧ p.1 ≤ 32767 ∧ -32768 ≤ p.2 ∧ p.2 ≤ 32767) : -32768 * (xs.length : Int) ≤ sX xs ∧ sX xs ≤ 32768 * xs.length ∧ -32768 * (xs.length : Int) ≤ sY xs ∧ sY xs ≤ 32768 * xs.length := by
  induction xs with
  | nil => simp [sX, sY]
  | cons p xs ih =>
    have h1 := h p (List.mem_cons_self ..)
    have h2 := ih fun q hq => h q (List.mem_cons_of_mem _ hq)
    unfold sX sY at *
    simp only [List.map_cons, List.sum_cons, List.length_cons]
    omega

theorem div_some (x : Int) (n : Nat) (hx : x.natAbs < 4503599627370496) (hn : 0 < n) (hn2 : n < 4503599627370496) : floatBits .quo .f64 (fl x) (floatOfInt .f64 (n : Int)) = some (dv x n) := by
  show double.div (fl x) (fl n) = some ((double.div (fl x) (fl n)).getD 0)
  have p : (2:Nat)^53 = 9007199254740992 := p53
  obtain ⟨a, ha⟩ := read_fw (decide (x < 0)) x.natAbs 0 (by omega) (by omega) (by omega)
  have hb := read_fw_pos (decide ((n : Int) < 0)) (n : Int).natAbs 0 (by omega) (by omega) (by omega) (by omega)
  have hne : (n : Int).natAbs * 2 ^ (52 - (n : Int).natAbs.log2) ≠ 0 := by
    have := Nat.mul_pos (show 0 < (n : Int).natAbs by omega) (Nat.two_pow_pos (52 - (n : Int).natAbs.log2))
    omega
  unfold Format.div fl
  rw [ha, hb]
  simp only [Datum.quotient]
  rw [if_neg hne]
  rfl

set_option maxHeartbeats 1000000 in
theorem middle_some (A : Option Addr) (n c : Nat) (xs : List (Int × Int)) (w : World) (h : PRd w w.heap.size A n xs) (hn : 0 < n) (hm : n ≤ 1048576) (hc : n ≤ c) :
    Calls Try.prog 37 #[.slice A n c] w (Gives (.complex .f64 (dv (sX xs) n) (dv (sY xs) n)) w) := by
  obtain ⟨hl, hbd, hcell⟩ := h
  obtain ⟨b, off, rfl, hb, hcell⟩ := hcell hn
  have hn0 : ((n : Int) == 0) = false := by simp; omega
  have HC := Lib.hid hcell
  have HL := Lib.hid hl
  have HB := Lib.hid hbd
  clear hcell hl hbd
  go_enter Try.func37, Try.ntmps37
  go_wp2
  go_loopw [3, 12] (fun cv i wr => ∃ k : Nat, k ≤ n ∧ i = .int .i64 k ∧ cv = .complex .f64 (fl (sX (xs.take k))) (fl (sY (xs.take k))) ∧ Below w.heap.size w wr) (fun _ i _ => n - (intOf i).toNat)
  case atStart => exact ⟨0, Nat.zero_le _, rfl, rfl, Below.refl _ _⟩
  case round =>
    obtain ⟨k, hk, rfl, rfl, hbw⟩ := hrel
    by_cases hlt : k < n
    · obtain ⟨p, hp⟩ : ∃ p, xs[k]? = some p := ⟨_, List.getElem?_eq_getElem (by rw [HL.out]; exact hlt)⟩
      obtain ⟨c0, c1⟩ := HC.out k p hp
      have d0 : wr.cell? ⟨b, off + k * 2, none⟩ = some (.int .i16 p.1) := (hbw.cell (p := ⟨b, off + k * 2, none⟩) hb).trans c0
      have d1 : wr.cell? ⟨b, off + k * 2 + 1, none⟩ = some (.int .i16 p.2) := (hbw.cell (p := ⟨b, off + k * 2 + 1, none⟩) hb).trans c1
      obtain ⟨hb1, hb2, hb3, hb4⟩ := HB.out p (List.mem_of_getElem? hp)
      obtain ⟨s1, s2, s3, s4⟩ := sum_bd (xs.take k) (fun q hq => HB.out q (List.mem_of_mem_take hq))
      have hlk : (xs.take k).length ≤ k := List.length_take_le _ _
      obtain ⟨q1, q2⟩ := sum_snoc xs k p hp
      have hsum := cadd_fl (sX (xs.take k)) (sY (xs.take k)) p.1 p.2 (by omega) (by omega) (by omega) (by omega)
      rw [← q1, ← q2] at hsum
      have hadd := fun w => run_complex_sum (P := Try.prog) w .add (.inl rfl) 39 .f64 _ _ _ _ _ _ hsum
      clear hsum q1 q2 s1 s2 s3 s4 hlk hb1 hb2 hb3 hb4 c0 c1 hp
      go_wp2_with fail
      refine (to_any _ _ _).mono ?_
      rintro e w' ⟨rfl, x, rfl⟩
      go_wp2
      go_roundw
      case rel =>
        refine ⟨k + 1, hlt, by go_num, rfl, (hbw.alloc hbw.size _).trans (x.h.mono ?_)⟩
        have := hbw.size
        simp; omega
      case measure => simp [intOf]; omega
    · obtain rfl : k = n := by omega
      have e : xs.take k = xs := List.take_of_length_le (by rw [HL.out]; exact Nat.le_refl _)
      rw [e]
      obtain ⟨s1, s2, s3, s4⟩ := sum_bd xs HB.out
      rw [HL.out] at s1 s2 s3 s4
      have hd1 := fun w => run_float_arith (P := Try.prog) w .quo 42 .f64 _ _ _ (div_some (sX xs) k (by omega) hn (by omega))
      have hd2 := fun w => run_float_arith (P := Try.prog) w .quo 42 .f64 _ _ _ (div_some (sY xs) k (by omega) hn (by omega))
      clear e s1 s2 s3 s4
      go_wp2
      go_ret
      exact gives_of_eq rfl hbw

set_option maxHeartbeats 1000000 in
theorem middle_none (A : Option Addr) (c : Nat) (w : World) : Calls Try.prog 37 #[.slice A 0 c] w (Gives (.complex .f64 0 0) w) := by
  go_enter Try.func37, Try.ntmps37
  go_wp2
  go_ret
  exact gives_of_eq rfl (Below.refl _ _)

set_option maxHeartbeats 1000000 in
theorem rmiddle_none (A : Option Addr) (c : Nat) (w : World) : Calls Try.prog 38 #[.slice A 0 c] w (Gives (.tuple #[.float .f64 0, .float .f64 0]) w) := by
  go_enter Try.func38, Try.ntmps38
  go_wp2
  go_ret2
  exact gives_of_eq rfl (Below.refl _ _)

set_option maxHeartbeats 1000000 in
theorem rmiddle_some (A : Option Addr) (n c : Nat) (xs : List (Int × Int)) (w : World) (h : PRd w w.heap.size A n xs) (hn : 0 < n) (hm : n ≤ 1048576) (hc : n ≤ c) :
    Calls Try.prog 38 #[.slice A n c] w (Gives (.tuple #[.float .f64 (dv (sX xs) n), .float .f64 (dv (sY xs) n)]) w) := by
  obtain ⟨hl, hbd, hcell⟩ := h
  obtain ⟨b, off, rfl, hb, hcell⟩ := hcell hn
  have hn0 : ((n : Int) == 0) = false := by simp; omega
  have HC := Lib.hid hcell
  have HL := Lib.hid hl
  have HB := Lib.hid hbd
  clear hcell hl hbd
  go_enter Try.func38, Try.ntmps38
  go_wp2
  go_loop [4, 5, 6] (fun xv yv i => ∃ k : Nat, k ≤ n ∧ i = .int .i64 k ∧ xv = .int .i64 (sX (xs.take k)) ∧ yv = .int .i64 (sY (xs.take k))) (fun _ _ i => n - (intOf i).toNat)
  case atStart => exact ⟨0, Nat.zero_le _, rfl, rfl, rfl⟩
  case round =>
    obtain ⟨k, hk, rfl, rfl, rfl⟩ := hrel
    by_cases hlt : k < n
    · obtain ⟨p, hp⟩ : ∃ p, xs[k]? = some p := ⟨_, List.getElem?_eq_getElem (by rw [HL.out]; exact hlt)⟩
      obtain ⟨c0, c1⟩ := HC.out k p hp
      obtain ⟨hb1, hb2, hb3, hb4⟩ := HB.out p (List.mem_of_getElem? hp)
      obtain ⟨s1, s2, s3, s4⟩ := sum_bd (xs.take k) (fun q hq => HB.out q (List.mem_of_mem_take hq))
      have hlk : (xs.take k).length ≤ k := List.length_take_le _ _
      obtain ⟨q1, q2⟩ := sum_snoc xs k p hp
      have H1 := Lib.hid q1
      have H2 := Lib.hid q2
      have t1 : -34359738368 ≤ sX (xs.take k) := by omega
      have t2 : sX (xs.take k) ≤ 34359738368 := by omega
      have t3 : -34359738368 ≤ sY (xs.take k) := by omega
      have t4 : sY (xs.take k) ≤ 34359738368 := by omega
      clear q1 q2 hp s1 s2 s3 s4 hlk
      go_wp2
      go_round
      case rel => exact ⟨k + 1, hlt, by go_num, by rw [H1.out], by rw [H2.out]⟩
      case measure => simp [intOf]; omega
    · obtain rfl : k = n := by omega
      have e : xs.take k = xs := List.take_of_length_le (by rw [HL.out]; exact Nat.le_refl _)
      rw [e]
      obtain ⟨s1, s2, s3, s4⟩ := sum_bd xs HB.out
      rw [HL.out] at s1 s2 s3 s4
      have hd1 : ∀ w, (binOp .quo 42 (.float .f64 (floatOfInt .f64 (sX xs))) (.float .f64 (floatOfInt .f64 (k : Int)))).run Try.prog w = .ok (.float .f64 (dv (sX xs) k)) w := fun w => run_float_arith (P := Try.prog) w .quo 42 .f64 _ _ _ (div_some (sX xs) k (by omega) hn (by omega))
      have hd2 : ∀ w, (binOp .quo 42 (.float .f64 (floatOfInt .f64 (sY xs))) (.float .f64 (floatOfInt .f64 (k : Int)))).run Try.prog w = .ok (.float .f64 (dv (sY xs) k)) w := fun w => run_float_arith (P := Try.prog) w .quo 42 .f64 _ _ _ (div_some (sY xs) k (by omega) hn (by omega))
      clear e s1 s2 s3 s4
      go_wp2
      go_ret2
      exact gives_of_eq rfl (Below.refl _ _)
end Go.Proofs.Ytilimgjmiijkiaa
