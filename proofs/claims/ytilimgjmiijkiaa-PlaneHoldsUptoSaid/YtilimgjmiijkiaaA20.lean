/- Contracts of plane, 20: Join of some points is the least box that has them. -/
import Derived.Test.YtilimgjmiijkiaaA13
import Derived.Test.YtilimgjmiijkiaaA15
import Derived.Lib.MinMax
import Derived.Deep.RegionHeld3
namespace Go.Proofs.Ytilimgjmiijkiaa
open Go.RowKit
attribute [local go_sem] BW.cell BW.frozen
set_option linter.unusedVariables false

/-- the least and the greatest of some numbers -/
def lo : List Int → Int
  | [] => 0
  | a :: r => r.foldl min a
def hi : List Int → Int
  | [] => 0
  | a :: r => r.foldl max a

theorem lo_snoc (l : List Int) (a : Int) (h : l ≠ []) : lo (l ++ [a]) = min (lo l) a := by
  cases l with
  | nil => exact absurd rfl h
  | cons b r => simp [lo, List.foldl_append]
theorem hi_snoc (l : List Int) (a : Int) (h : l ≠ []) : hi (l ++ [a]) = max (hi l) a := by
  cases l with
  | nil => exact absurd rfl h
  | cons b r => simp [hi, List.foldl_append]

def loX (xs : List (Int × Int)) : Int := lo (xs.map (·.1))
def loY (xs : List (Int × Int)) : Int := lo (xs.map (·.2))
def hiX (xs : List (Int × Int)) : Int := hi (xs.map (·.1))
def hiY (xs : List (Int × Int)) : Int := hi (xs.map (·.2))

theorem box_snoc (xs : List (Int × Int)) (k : Nat) (p : Int × Int) (h : xs[k]? = some p) (hk : 0 < k) :
    loX (xs.take (k + 1)) = min (loX (xs.take k)) p.1 ∧ loY (xs.take (k + 1)) = min (loY (xs.take k)) p.2 ∧ hiX (xs.take (k + 1)) = max (hiX (xs.take k)) p.1 ∧ hiY (xs.take (k + 1)) = max (hiY (xs.take k)) p.2 := by
  have hl : k < xs.length := (List.getElem?_eq_some_iff.1 h).1
  have e : xs.take (k + 1) = xs.take k ++ [p] := by rw [List.take_add_one, h]; rfl
  have hne : xs.take k ≠ [] := by
    intro h0
    have h2 : (xs.take k).length = k := List.length_take_of_le (by omega)
    rw [h0] at h2
    simp at h2; omega
  unfold loX loY hiX hiY
  rw [e]
  simp only [List.map_append, List.map_cons, List.map_nil]
  have hm : ∀ f : Int × Int → Int, (xs.take k).map f ≠ [] := fun f h0 => hne (List.map_eq_nil_iff.1 h0)
  exact ⟨lo_snoc _ _ (hm _), lo_snoc _ _ (hm _), hi_snoc _ _ (hm _), hi_snoc _ _ (hm _)⟩

theorem box_one (xs : List (Int × Int)) (p : Int × Int) (h : xs[0]? = some p) : loX (xs.take 1) = p.1 ∧ loY (xs.take 1) = p.2 ∧ hiX (xs.take 1) = p.1 ∧ hiY (xs.take 1) = p.2 := by
  cases xs with
  | nil => cases h
  | cons q r => simp at h; subst h; exact ⟨rfl, rfl, rfl, rfl⟩

/-- a box's four cells, free to be written -/
structure Four (w : World) (g : Nat) (a b c d : Int) : Prop where
  c0 : w.cell? ⟨g, 0, none⟩ = some (.int .i16 a)
  c1 : w.cell? ⟨g, 1, none⟩ = some (.int .i16 b)
  c2 : w.cell? ⟨g, 2, none⟩ = some (.int .i16 c)
  c3 : w.cell? ⟨g, 3, none⟩ = some (.int .i16 d)
  f0 : w.frozen? ⟨g, 0, none⟩ = false
  f1 : w.frozen? ⟨g, 1, none⟩ = false
  f2 : w.frozen? ⟨g, 2, none⟩ = false
  f3 : w.frozen? ⟨g, 3, none⟩ = false
  lt : g < w.heap.size

set_option maxHeartbeats 4000000 in
theorem join_more (b off n c : Nat) (xs : List (Int × Int)) (p0 : Int × Int) (w : World) (hl : xs.length = n) (hb : b < w.heap.size) (hn : 1 < n) (hm : n ≤ 2097152) (hc : n ≤ c) (hp0 : xs[0]? = some p0)
    (hcell : ∀ i p, xs[i]? = some p → w.cell? ⟨b, off + i * 2, none⟩ = some (.int .i16 p.1) ∧ w.cell? ⟨b, off + i * 2 + 1, none⟩ = some (.int .i16 p.2)) :
    Calls Try.prog 28 #[.slice (some ⟨b, off, none⟩) n c] w (Gives (.tuple #[.agg #[.int .i16 (loX xs), .int .i16 (loY xs), .int .i16 (hiX xs), .int .i16 (hiY xs)], .bool true]) w) := by
  have hn0 : ((n : Int) == 0) = false := by simp; omega
  have hc1 : ¬ c = 1 := by omega
  have hnI : (0 : Int) < (n : Int) := by omega
  have hnJ : (1 : Int) ≤ (n : Int) := by omega
  have hnP : 0 < n := by omega
  obtain ⟨u0, u1⟩ := hcell 0 p0 hp0
  simp only [Nat.zero_mul, Nat.add_zero] at u0 u1
  have HC := Lib.hid hcell
  have HL := Lib.hid hl
  have H1 := Lib.hid (box_one xs p0 hp0)
  clear hcell hl hp0
  go_enter Try.func28, Try.ntmps28
  go_wp2
  go_region_held3 (fun w' => w'.cell? ⟨b, off, none⟩ = some (.int .i16 p0.1) ∧ w'.cell? ⟨b, off + 1, none⟩ = some (.int .i16 p0.2)) (go_keep) (fail)
  all_goals (rename_i hHeld; clear hHeld)
  go_wp2
  go_loopw [21] (fun i wr => ∃ k : Nat, k ≤ n - 1 ∧ i = .int .i64 k ∧ Four wr (w.heap.size + 1) (loX (xs.take (k + 1))) (loY (xs.take (k + 1))) (hiX (xs.take (k + 1))) (hiY (xs.take (k + 1))) ∧ Four wr w.heap.size 0 0 0 0 ∧ Below w.heap.size w wr) (fun i _ => n - (intOf i).toNat)
  case atStart =>
    obtain ⟨e1, e2, e3, e4⟩ := H1.out
    refine ⟨0, Nat.zero_le _, rfl, ?_, ?_, (((Below.refl _ w).alloc (Nat.le_refl _) _).alloc (by simp) _).drew⟩
    · rw [Nat.zero_add, e1, e2, e3, e4]
      constructor <;> simp [go_sem]
    · constructor <;> simp [go_sem]
  case round =>
    obtain ⟨k, hk, rfl, ⟨c0, c1, c2, c3, f0, f1, f2, f3, lt1⟩, ⟨v0, v1, v2, v3, x0, x1, x2, x3, lt0⟩, hbw⟩ := hrel
    by_cases hlt : k < n - 1
    · obtain ⟨p, hp⟩ : ∃ p, xs[k + 1]? = some p := ⟨_, List.getElem?_eq_getElem (by rw [HL.out]; omega)⟩
      obtain ⟨d0, d1⟩ := HC.out (k + 1) p hp
      rw [show off + (k + 1) * 2 = off + 2 + k * 2 by omega] at d0 d1
      have d0 := (hbw.cell (p := ⟨b, off + 2 + k * 2, none⟩) hb).trans d0
      have d1 := (hbw.cell (p := ⟨b, off + 2 + k * 2 + 1, none⟩) hb).trans d1
      obtain ⟨q1, q2, q3, q4⟩ := box_snoc xs (k + 1) p hp (by omega)
      generalize loX (xs.take (k + 1)) = a1 at *
      generalize loY (xs.take (k + 1)) = a2 at *
      generalize hiX (xs.take (k + 1)) = a3 at *
      generalize hiY (xs.take (k + 1)) = a4 at *
      have Q := Lib.hid (And.intro q1 (And.intro q2 (And.intro q3 q4)))
      clear q1 q2 q3 q4 hp
      go_wp2
      go_roundw
      case rel =>
        obtain ⟨q1, q2, q3, q4⟩ := Q.out
        refine ⟨k + 1, by omega, by go_num, ?_, ?_, ?_⟩
        · rw [q1, q2, q3, q4]
          constructor <;> simp [go_sem, *]
        · constructor <;> simp [go_sem, *]
        · exact ((((hbw.setCell (p := ⟨w.heap.size + 1, 0, none⟩) (by simp) _).setCell (p := ⟨w.heap.size + 1, 1, none⟩) (by simp) _).setCell (p := ⟨w.heap.size + 1, 2, none⟩) (by simp) _).setCell (p := ⟨w.heap.size + 1, 3, none⟩) (by simp) _).alloc (by simp; omega) _
      case measure => simp [intOf]; omega
    · obtain rfl : k = n - 1 := by omega
      have e : xs.take (n - 1 + 1) = xs := List.take_of_length_le (by rw [HL.out]; omega)
      rw [e] at c0 c1 c2 c3
      go_wp2
      refine bodyPost_ret (v := .tuple #[.agg #[.int .i16 (loX xs), .int .i16 (loY xs), .int .i16 (hiX xs), .int .i16 (hiY xs)], .bool true]) (by simp [results, Try.results28, go_sem, v0, v1, v2, v3]) rfl (gives_of_eq rfl ?_)
      exact (((hbw.setCell (p := ⟨w.heap.size, 0, none⟩) (by simp) _).setCell (p := ⟨w.heap.size, 1, none⟩) (by simp) _).setCell (p := ⟨w.heap.size, 2, none⟩) (by simp) _).setCell (p := ⟨w.heap.size, 3, none⟩) (by simp) _

set_option maxHeartbeats 2000000 in
theorem join_one (b off c : Nat) (xs : List (Int × Int)) (p0 : Int × Int) (w : World) (hl : xs.length = 1) (hb : b < w.heap.size) (hc : 1 ≤ c) (hp0 : xs[0]? = some p0)
    (hcell : ∀ i p, xs[i]? = some p → w.cell? ⟨b, off + i * 2, none⟩ = some (.int .i16 p.1) ∧ w.cell? ⟨b, off + i * 2 + 1, none⟩ = some (.int .i16 p.2)) :
    Calls Try.prog 28 #[.slice (some ⟨b, off, none⟩) 1 c] w (Gives (.tuple #[.agg #[.int .i16 (loX xs), .int .i16 (loY xs), .int .i16 (hiX xs), .int .i16 (hiY xs)], .bool true]) w) := by
  obtain ⟨u0, u1⟩ := hcell 0 p0 hp0
  simp only [Nat.zero_mul, Nat.add_zero] at u0 u1
  have h1 := box_one xs p0 hp0
  rw [show xs.take 1 = xs from List.take_of_length_le (by omega)] at h1
  obtain ⟨e1, e2, e3, e4⟩ := h1
  rw [e1, e2, e3, e4]
  clear e1 e2 e3 e4 hcell hl hp0
  by_cases hc1 : c = 1
  · subst hc1
    go_enter Try.func28, Try.ntmps28
    go_wp2
    go_region_held3 (fun w' => w'.cell? ⟨b, off, none⟩ = some (.int .i16 p0.1) ∧ w'.cell? ⟨b, off + 1, none⟩ = some (.int .i16 p0.2)) (go_keep) (fail)
    all_goals (rename_i hHeld; clear hHeld)
    go_wp2
    refine wp_loop_rounds 1 ?_
    rw [rounds_succ]
    go_wp2
    refine bodyPost_ret (v := .tuple #[.agg #[.int .i16 p0.1, .int .i16 p0.2, .int .i16 p0.1, .int .i16 p0.2], .bool true]) (by simp [results, Try.results28, go_sem]) rfl (gives_of_eq rfl ?_)
    exact (((Below.refl _ w).alloc (Nat.le_refl _) _).alloc (by simp) _).drew
  · have hc2 : 1 < c := by omega
    go_enter Try.func28, Try.ntmps28
    go_wp2
    go_region_held3 (fun w' => w'.cell? ⟨b, off, none⟩ = some (.int .i16 p0.1) ∧ w'.cell? ⟨b, off + 1, none⟩ = some (.int .i16 p0.2)) (go_keep) (fail)
    all_goals (rename_i hHeld; clear hHeld)
    go_wp2
    refine wp_loop_rounds 1 ?_
    rw [rounds_succ]
    go_wp2
    refine bodyPost_ret (v := .tuple #[.agg #[.int .i16 p0.1, .int .i16 p0.2, .int .i16 p0.1, .int .i16 p0.2], .bool true]) (by simp [results, Try.results28, go_sem]) rfl (gives_of_eq rfl ?_)
    exact (((Below.refl _ w).alloc (Nat.le_refl _) _).alloc (by simp) _).drew

theorem join_some (A : Option Addr) (n c : Nat) (xs : List (Int × Int)) (w : World) (h : PRd w w.heap.size A n xs) (hn : 0 < n) (hm : n ≤ 2097152) (hc : n ≤ c) :
    Calls Try.prog 28 #[.slice A n c] w (Gives (.tuple #[.agg #[.int .i16 (loX xs), .int .i16 (loY xs), .int .i16 (hiX xs), .int .i16 (hiY xs)], .bool true]) w) := by
  obtain ⟨b, off, rfl, hb, hcell⟩ := h.2.2 hn
  obtain ⟨p0, hp0⟩ : ∃ p0, xs[0]? = some p0 := ⟨_, List.getElem?_eq_getElem (by rw [h.1]; exact hn)⟩
  by_cases h1 : n = 1
  · subst h1
    exact join_one b off c xs p0 w h.1 hb hc hp0 hcell
  · exact join_more b off n c xs p0 w h.1 hb (by omega) hm hc hp0 hcell
end Go.Proofs.Ytilimgjmiijkiaa
