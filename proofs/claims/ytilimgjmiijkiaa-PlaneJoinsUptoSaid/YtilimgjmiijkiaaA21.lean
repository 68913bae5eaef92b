/- Contracts of the reference, 21: its Join of some points is the least box that has them. -/
import Derived.Test.YtilimgjmiijkiaaA20
namespace Go.Proofs.Ytilimgjmiijkiaa
open Go.RowKit
attribute [local go_sem] BW.cell BW.frozen
set_option linter.unusedVariables false

/-- the points that a box of k rounds has: the first at least -/
def upTo (xs : List (Int × Int)) (k : Nat) : List (Int × Int) := xs.take (if k = 0 then 1 else k)

theorem upTo_step (xs : List (Int × Int)) (k : Nat) (p : Int × Int) (h : xs[k]? = some p) :
    loX (upTo xs (k + 1)) = min (loX (upTo xs k)) p.1 ∧ loY (upTo xs (k + 1)) = min (loY (upTo xs k)) p.2 ∧ hiX (upTo xs (k + 1)) = max (hiX (upTo xs k)) p.1 ∧ hiY (upTo xs (k + 1)) = max (hiY (upTo xs k)) p.2 := by
  unfold upTo
  rw [if_neg (Nat.succ_ne_zero k)]
  by_cases hk : k = 0
  · subst hk
    obtain ⟨a, b, c, d⟩ := box_one xs p h
    simp only [if_true, Nat.zero_add]
    rw [a, b, c, d]
    simp
  · rw [if_neg hk]
    exact box_snoc xs k p h (by omega)

set_option maxHeartbeats 8000000 in
theorem rjoin_some_at (b off n c : Nat) (xs : List (Int × Int)) (p0 : Int × Int) (w : World) (hl : xs.length = n) (hb : b < w.heap.size) (hn : 0 < n) (hm : n ≤ 2097152) (hc : n ≤ c) (hp0 : xs[0]? = some p0)
    (hcell : ∀ i p, xs[i]? = some p → w.cell? ⟨b, off + i * 2, none⟩ = some (.int .i16 p.1) ∧ w.cell? ⟨b, off + i * 2 + 1, none⟩ = some (.int .i16 p.2)) :
    Calls Try.prog 27 #[.slice (some ⟨b, off, none⟩) n c] w (Gives (.tuple #[.agg #[.int .i16 (loX xs), .int .i16 (loY xs), .int .i16 (hiX xs), .int .i16 (hiY xs)], .bool true]) w) := by
  have hn0 : ((n : Int) == 0) = false := by simp; omega
  obtain ⟨u0, u1⟩ := hcell 0 p0 hp0
  simp only [Nat.zero_mul, Nat.add_zero] at u0 u1
  have HC := Lib.hid hcell
  have HL := Lib.hid hl
  have H1 := Lib.hid (box_one xs p0 hp0)
  clear hcell hl hp0
  go_enter Try.func27, Try.ntmps27
  go_wp2
  go_region_held3 (fun w' => w'.cell? ⟨b, off, none⟩ = some (.int .i16 p0.1) ∧ w'.cell? ⟨b, off + 1, none⟩ = some (.int .i16 p0.2)) (go_keep) (fail)
  all_goals (rename_i hHeld; clear hHeld)
  go_wp2
  go_loopw [5] (fun i wr => ∃ k : Nat, k ≤ n ∧ i = .int .i64 k ∧ Four wr (w.heap.size + 1) (loX (upTo xs k)) (loY (upTo xs k)) (hiX (upTo xs k)) (hiY (upTo xs k)) ∧ Four wr w.heap.size 0 0 0 0 ∧ Below w.heap.size w wr) (fun i _ => n - (intOf i).toNat)
  case atStart =>
    obtain ⟨e1, e2, e3, e4⟩ := H1.out
    refine ⟨0, Nat.zero_le _, rfl, ?_, ?_, (((Below.refl _ w).alloc (Nat.le_refl _) _).alloc (by simp) _).drew⟩
    · unfold upTo
      rw [if_pos rfl, e1, e2, e3, e4]
      constructor <;> simp [go_sem]
    · constructor <;> simp [go_sem]
  case round =>
    obtain ⟨k, hk, rfl, ⟨c0, c1, c2, c3, f0, f1, f2, f3, lt1⟩, ⟨v0, v1, v2, v3, x0, x1, x2, x3, lt0⟩, hbw⟩ := hrel
    by_cases hlt : k < n
    · obtain ⟨p, hp⟩ : ∃ p, xs[k]? = some p := ⟨_, List.getElem?_eq_getElem (by rw [HL.out]; omega)⟩
      obtain ⟨d0, d1⟩ := HC.out k p hp
      have d0 := (hbw.cell (p := ⟨b, off + k * 2, none⟩) hb).trans d0
      have d1 := (hbw.cell (p := ⟨b, off + k * 2 + 1, none⟩) hb).trans d1
      obtain ⟨q1, q2, q3, q4⟩ := upTo_step xs k p hp
      generalize loX (upTo xs k) = a1 at *
      generalize loY (upTo xs k) = a2 at *
      generalize hiX (upTo xs k) = a3 at *
      generalize hiY (upTo xs k) = a4 at *
      have Q := Lib.hid (And.intro q1 (And.intro q2 (And.intro q3 q4)))
      have bl : b < wr.heap.size := Nat.lt_of_lt_of_le hb hbw.size
      clear q1 q2 q3 q4 hp
      go_wp2
      refine wp_region_bw wr.heap.size _ (Below.refl _ _) (by kernel_rfl) (by kernel_rfl) ?_
      repeat (go_big_quiet_step (fail))
      refine wpQuiet_nil ?_
      intro y0
      have hy0 : Below w.heap.size w y0.i := hbw.trans (y0.h.mono hbw.size)
      have sz0 : wr.heap.size ≤ y0.i.heap.size := by have := y0.size; (try simp at this); omega
      have lA0 : w.heap.size + 1 < y0.i.heap.size := by omega
      have lB0 : w.heap.size < y0.i.heap.size := by omega
      by_cases h0 : p.1 < a1
      · have g0 : decide (p.1 < a1) = true := decide_eq_true h0
        go_wp2
        refine wp_region_bw wr.heap.size _ (Below.refl _ _) (by kernel_rfl) (by kernel_rfl) ?_
        repeat (go_big_quiet_step (fail))
        refine wpQuiet_nil ?_
        intro y1
        have hy1 : Below w.heap.size w y1.i := (hy0.setCell (p := ⟨w.heap.size + 1, 0, none⟩) (by simp) _).trans (y1.h.mono hbw.size)
        have sz1 : wr.heap.size ≤ y1.i.heap.size := by have := y1.size; (try simp at this); omega
        have lA1 : w.heap.size + 1 < y1.i.heap.size := by omega
        have lB1 : w.heap.size < y1.i.heap.size := by omega
        by_cases h1 : a3 < p.1
        · have g1 : decide (a3 < p.1) = true := decide_eq_true h1
          go_wp2
          refine wp_region_bw wr.heap.size _ (Below.refl _ _) (by kernel_rfl) (by kernel_rfl) ?_
          repeat (go_big_quiet_step (fail))
          refine wpQuiet_nil ?_
          intro y2
          have hy2 : Below w.heap.size w y2.i := (hy1.setCell (p := ⟨w.heap.size + 1, 2, none⟩) (by simp) _).trans (y2.h.mono hbw.size)
          have sz2 : wr.heap.size ≤ y2.i.heap.size := by have := y2.size; (try simp at this); omega
          have lA2 : w.heap.size + 1 < y2.i.heap.size := by omega
          have lB2 : w.heap.size < y2.i.heap.size := by omega
          by_cases h2 : p.2 < a2
          · have g2 : decide (p.2 < a2) = true := decide_eq_true h2
            go_wp2
            refine wp_region_bw wr.heap.size _ (Below.refl _ _) (by kernel_rfl) (by kernel_rfl) ?_
            repeat (go_big_quiet_step (fail))
            refine wpQuiet_nil ?_
            intro y3
            have hy3 : Below w.heap.size w y3.i := (hy2.setCell (p := ⟨w.heap.size + 1, 1, none⟩) (by simp) _).trans (y3.h.mono hbw.size)
            have sz3 : wr.heap.size ≤ y3.i.heap.size := by have := y3.size; (try simp at this); omega
            have lA3 : w.heap.size + 1 < y3.i.heap.size := by omega
            have lB3 : w.heap.size < y3.i.heap.size := by omega
            by_cases h3 : a4 < p.2
            · have g3 : decide (a4 < p.2) = true := decide_eq_true h3
              go_wp2
              go_roundw
              case rel =>
                obtain ⟨q1, q2, q3, q4⟩ := Q.out
                refine ⟨k + 1, by omega, by go_num, ?_, ?_, ?_⟩
                · rw [q1, q2, q3, q4, show min a1 p.1 = p.1 by omega, show min a2 p.2 = p.2 by omega, show max a3 p.1 = p.1 by omega, show max a4 p.2 = p.2 by omega]
                  constructor <;> simp [go_sem, *]
                · constructor <;> simp [go_sem, *]
                · exact (hy3.setCell (p := ⟨w.heap.size + 1, 3, none⟩) (by simp) _)
              case measure => simp [intOf]; omega
            · have g3 : decide (a4 < p.2) = false := decide_eq_false h3
              go_wp2
              go_roundw
              case rel =>
                obtain ⟨q1, q2, q3, q4⟩ := Q.out
                refine ⟨k + 1, by omega, by go_num, ?_, ?_, ?_⟩
                · rw [q1, q2, q3, q4, show min a1 p.1 = p.1 by omega, show min a2 p.2 = p.2 by omega, show max a3 p.1 = p.1 by omega, show max a4 p.2 = a4 by omega]
                  constructor <;> simp [go_sem, *]
                · constructor <;> simp [go_sem, *]
                · exact hy3
              case measure => simp [intOf]; omega
          · have g2 : decide (p.2 < a2) = false := decide_eq_false h2
            go_wp2
            refine wp_region_bw wr.heap.size _ (Below.refl _ _) (by kernel_rfl) (by kernel_rfl) ?_
            repeat (go_big_quiet_step (fail))
            refine wpQuiet_nil ?_
            intro y3
            have hy3 : Below w.heap.size w y3.i := hy2.trans (y3.h.mono hbw.size)
            have sz3 : wr.heap.size ≤ y3.i.heap.size := by have := y3.size; (try simp at this); omega
            have lA3 : w.heap.size + 1 < y3.i.heap.size := by omega
            have lB3 : w.heap.size < y3.i.heap.size := by omega
            by_cases h3 : a4 < p.2
            · have g3 : decide (a4 < p.2) = true := decide_eq_true h3
              go_wp2
              go_roundw
              case rel =>
                obtain ⟨q1, q2, q3, q4⟩ := Q.out
                refine ⟨k + 1, by omega, by go_num, ?_, ?_, ?_⟩
                · rw [q1, q2, q3, q4, show min a1 p.1 = p.1 by omega, show min a2 p.2 = a2 by omega, show max a3 p.1 = p.1 by omega, show max a4 p.2 = p.2 by omega]
                  constructor <;> simp [go_sem, *]
                · constructor <;> simp [go_sem, *]
                · exact (hy3.setCell (p := ⟨w.heap.size + 1, 3, none⟩) (by simp) _)
              case measure => simp [intOf]; omega
            · have g3 : decide (a4 < p.2) = false := decide_eq_false h3
              go_wp2
              go_roundw
              case rel =>
                obtain ⟨q1, q2, q3, q4⟩ := Q.out
                refine ⟨k + 1, by omega, by go_num, ?_, ?_, ?_⟩
                · rw [q1, q2, q3, q4, show min a1 p.1 = p.1 by omega, show min a2 p.2 = a2 by omega, show max a3 p.1 = p.1 by omega, show max a4 p.2 = a4 by omega]
                  constructor <;> simp [go_sem, *]
                · constructor <;> simp [go_sem, *]
                · exact hy3
              case measure => simp [intOf]; omega
        · have g1 : decide (a3 < p.1) = false := decide_eq_false h1
          go_wp2
          refine wp_region_bw wr.heap.size _ (Below.refl _ _) (by kernel_rfl) (by kernel_rfl) ?_
          repeat (go_big_quiet_step (fail))
          refine wpQuiet_nil ?_
          intro y2
          have hy2 : Below w.heap.size w y2.i := hy1.trans (y2.h.mono hbw.size)
          have sz2 : wr.heap.size ≤ y2.i.heap.size := by have := y2.size; (try simp at this); omega
          have lA2 : w.heap.size + 1 < y2.i.heap.size := by omega
          have lB2 : w.heap.size < y2.i.heap.size := by omega
          by_cases h2 : p.2 < a2
          · have g2 : decide (p.2 < a2) = true := decide_eq_true h2
            go_wp2
            refine wp_region_bw wr.heap.size _ (Below.refl _ _) (by kernel_rfl) (by kernel_rfl) ?_
            repeat (go_big_quiet_step (fail))
            refine wpQuiet_nil ?_
            intro y3
            have hy3 : Below w.heap.size w y3.i := (hy2.setCell (p := ⟨w.heap.size + 1, 1, none⟩) (by simp) _).trans (y3.h.mono hbw.size)
            have sz3 : wr.heap.size ≤ y3.i.heap.size := by have := y3.size; (try simp at this); omega
            have lA3 : w.heap.size + 1 < y3.i.heap.size := by omega
            have lB3 : w.heap.size < y3.i.heap.size := by omega
            by_cases h3 : a4 < p.2
            · have g3 : decide (a4 < p.2) = true := decide_eq_true h3
              go_wp2
              go_roundw
              case rel =>
                obtain ⟨q1, q2, q3, q4⟩ := Q.out
                refine ⟨k + 1, by omega, by go_num, ?_, ?_, ?_⟩
                · rw [q1, q2, q3, q4, show min a1 p.1 = p.1 by omega, show min a2 p.2 = p.2 by omega, show max a3 p.1 = a3 by omega, show max a4 p.2 = p.2 by omega]
                  constructor <;> simp [go_sem, *]
                · constructor <;> simp [go_sem, *]
                · exact (hy3.setCell (p := ⟨w.heap.size + 1, 3, none⟩) (by simp) _)
              case measure => simp [intOf]; omega
            · have g3 : decide (a4 < p.2) = false := decide_eq_false h3
              go_wp2
              go_roundw
              case rel =>
                obtain ⟨q1, q2, q3, q4⟩ := Q.out
                refine ⟨k + 1, by omega, by go_num, ?_, ?_, ?_⟩
                · rw [q1, q2, q3, q4, show min a1 p.1 = p.1 by omega, show min a2 p.2 = p.2 by omega, show max a3 p.1 = a3 by omega, show max a4 p.2 = a4 by omega]
                  constructor <;> simp [go_sem, *]
                · constructor <;> simp [go_sem, *]
                · exact hy3
              case measure => simp [intOf]; omega
          · have g2 : decide (p.2 < a2) = false := decide_eq_false h2
            go_wp2
            refine wp_region_bw wr.heap.size _ (Below.refl _ _) (by kernel_rfl) (by kernel_rfl) ?_
            repeat (go_big_quiet_step (fail))
            refine wpQuiet_nil ?_
            intro y3
            have hy3 : Below w.heap.size w y3.i := hy2.trans (y3.h.mono hbw.size)
            have sz3 : wr.heap.size ≤ y3.i.heap.size := by have := y3.size; (try simp at this); omega
            have lA3 : w.heap.size + 1 < y3.i.heap.size := by omega
            have lB3 : w.heap.size < y3.i.heap.size := by omega
            by_cases h3 : a4 < p.2
            · have g3 : decide (a4 < p.2) = true := decide_eq_true h3
              go_wp2
              go_roundw
              case rel =>
                obtain ⟨q1, q2, q3, q4⟩ := Q.out
                refine ⟨k + 1, by omega, by go_num, ?_, ?_, ?_⟩
                · rw [q1, q2, q3, q4, show min a1 p.1 = p.1 by omega, show min a2 p.2 = a2 by omega, show max a3 p.1 = a3 by omega, show max a4 p.2 = p.2 by omega]
                  constructor <;> simp [go_sem, *]
                · constructor <;> simp [go_sem, *]
                · exact (hy3.setCell (p := ⟨w.heap.size + 1, 3, none⟩) (by simp) _)
              case measure => simp [intOf]; omega
            · have g3 : decide (a4 < p.2) = false := decide_eq_false h3
              go_wp2
              go_roundw
              case rel =>
                obtain ⟨q1, q2, q3, q4⟩ := Q.out
                refine ⟨k + 1, by omega, by go_num, ?_, ?_, ?_⟩
                · rw [q1, q2, q3, q4, show min a1 p.1 = p.1 by omega, show min a2 p.2 = a2 by omega, show max a3 p.1 = a3 by omega, show max a4 p.2 = a4 by omega]
                  constructor <;> simp [go_sem, *]
                · constructor <;> simp [go_sem, *]
                · exact hy3
              case measure => simp [intOf]; omega
      · have g0 : decide (p.1 < a1) = false := decide_eq_false h0
        go_wp2
        refine wp_region_bw wr.heap.size _ (Below.refl _ _) (by kernel_rfl) (by kernel_rfl) ?_
        repeat (go_big_quiet_step (fail))
        refine wpQuiet_nil ?_
        intro y1
        have hy1 : Below w.heap.size w y1.i := hy0.trans (y1.h.mono hbw.size)
        have sz1 : wr.heap.size ≤ y1.i.heap.size := by have := y1.size; (try simp at this); omega
        have lA1 : w.heap.size + 1 < y1.i.heap.size := by omega
        have lB1 : w.heap.size < y1.i.heap.size := by omega
        by_cases h1 : a3 < p.1
        · have g1 : decide (a3 < p.1) = true := decide_eq_true h1
          go_wp2
          refine wp_region_bw wr.heap.size _ (Below.refl _ _) (by kernel_rfl) (by kernel_rfl) ?_
          repeat (go_big_quiet_step (fail))
          refine wpQuiet_nil ?_
          intro y2
          have hy2 : Below w.heap.size w y2.i := (hy1.setCell (p := ⟨w.heap.size + 1, 2, none⟩) (by simp) _).trans (y2.h.mono hbw.size)
          have sz2 : wr.heap.size ≤ y2.i.heap.size := by have := y2.size; (try simp at this); omega
          have lA2 : w.heap.size + 1 < y2.i.heap.size := by omega
          have lB2 : w.heap.size < y2.i.heap.size := by omega
          by_cases h2 : p.2 < a2
          · have g2 : decide (p.2 < a2) = true := decide_eq_true h2
            go_wp2
            refine wp_region_bw wr.heap.size _ (Below.refl _ _) (by kernel_rfl) (by kernel_rfl) ?_
            repeat (go_big_quiet_step (fail))
            refine wpQuiet_nil ?_
            intro y3
            have hy3 : Below w.heap.size w y3.i := (hy2.setCell (p := ⟨w.heap.size + 1, 1, none⟩) (by simp) _).trans (y3.h.mono hbw.size)
            have sz3 : wr.heap.size ≤ y3.i.heap.size := by have := y3.size; (try simp at this); omega
            have lA3 : w.heap.size + 1 < y3.i.heap.size := by omega
            have lB3 : w.heap.size < y3.i.heap.size := by omega
            by_cases h3 : a4 < p.2
            · have g3 : decide (a4 < p.2) = true := decide_eq_true h3
              go_wp2
              go_roundw
              case rel =>
                obtain ⟨q1, q2, q3, q4⟩ := Q.out
                refine ⟨k + 1, by omega, by go_num, ?_, ?_, ?_⟩
                · rw [q1, q2, q3, q4, show min a1 p.1 = a1 by omega, show min a2 p.2 = p.2 by omega, show max a3 p.1 = p.1 by omega, show max a4 p.2 = p.2 by omega]
                  constructor <;> simp [go_sem, *]
                · constructor <;> simp [go_sem, *]
                · exact (hy3.setCell (p := ⟨w.heap.size + 1, 3, none⟩) (by simp) _)
              case measure => simp [intOf]; omega
            · have g3 : decide (a4 < p.2) = false := decide_eq_false h3
              go_wp2
              go_roundw
              case rel =>
                obtain ⟨q1, q2, q3, q4⟩ := Q.out
                refine ⟨k + 1, by omega, by go_num, ?_, ?_, ?_⟩
                · rw [q1, q2, q3, q4, show min a1 p.1 = a1 by omega, show min a2 p.2 = p.2 by omega, show max a3 p.1 = p.1 by omega, show max a4 p.2 = a4 by omega]
                  constructor <;> simp [go_sem, *]
                · constructor <;> simp [go_sem, *]
                · exact hy3
              case measure => simp [intOf]; omega
          · have g2 : decide (p.2 < a2) = false := decide_eq_false h2
            go_wp2
            refine wp_region_bw wr.heap.size _ (Below.refl _ _) (by kernel_rfl) (by kernel_rfl) ?_
            repeat (go_big_quiet_step (fail))
            refine wpQuiet_nil ?_
            intro y3
            have hy3 : Below w.heap.size w y3.i := hy2.trans (y3.h.mono hbw.size)
            have sz3 : wr.heap.size ≤ y3.i.heap.size := by have := y3.size; (try simp at this); omega
            have lA3 : w.heap.size + 1 < y3.i.heap.size := by omega
            have lB3 : w.heap.size < y3.i.heap.size := by omega
            by_cases h3 : a4 < p.2
            · have g3 : decide (a4 < p.2) = true := decide_eq_true h3
              go_wp2
              go_roundw
              case rel =>
                obtain ⟨q1, q2, q3, q4⟩ := Q.out
                refine ⟨k + 1, by omega, by go_num, ?_, ?_, ?_⟩
                · rw [q1, q2, q3, q4, show min a1 p.1 = a1 by omega, show min a2 p.2 = a2 by omega, show max a3 p.1 = p.1 by omega, show max a4 p.2 = p.2 by omega]
                  constructor <;> simp [go_sem, *]
                · constructor <;> simp [go_sem, *]
                · exact (hy3.setCell (p := ⟨w.heap.size + 1, 3, none⟩) (by simp) _)
              case measure => simp [intOf]; omega
            · have g3 : decide (a4 < p.2) = false := decide_eq_false h3
              go_wp2
              go_roundw
              case rel =>
                obtain ⟨q1, q2, q3, q4⟩ := Q.out
                refine ⟨k + 1, by omega, by go_num, ?_, ?_, ?_⟩
                · rw [q1, q2, q3, q4, show min a1 p.1 = a1 by omega, show min a2 p.2 = a2 by omega, show max a3 p.1 = p.1 by omega, show max a4 p.2 = a4 by omega]
                  constructor <;> simp [go_sem, *]
                · constructor <;> simp [go_sem, *]
                · exact hy3
              case measure => simp [intOf]; omega
        · have g1 : decide (a3 < p.1) = false := decide_eq_false h1
          go_wp2
          refine wp_region_bw wr.heap.size _ (Below.refl _ _) (by kernel_rfl) (by kernel_rfl) ?_
          repeat (go_big_quiet_step (fail))
          refine wpQuiet_nil ?_
          intro y2
          have hy2 : Below w.heap.size w y2.i := hy1.trans (y2.h.mono hbw.size)
          have sz2 : wr.heap.size ≤ y2.i.heap.size := by have := y2.size; (try simp at this); omega
          have lA2 : w.heap.size + 1 < y2.i.heap.size := by omega
          have lB2 : w.heap.size < y2.i.heap.size := by omega
          by_cases h2 : p.2 < a2
          · have g2 : decide (p.2 < a2) = true := decide_eq_true h2
            go_wp2
            refine wp_region_bw wr.heap.size _ (Below.refl _ _) (by kernel_rfl) (by kernel_rfl) ?_
            repeat (go_big_quiet_step (fail))
            refine wpQuiet_nil ?_
            intro y3
            have hy3 : Below w.heap.size w y3.i := (hy2.setCell (p := ⟨w.heap.size + 1, 1, none⟩) (by simp) _).trans (y3.h.mono hbw.size)
            have sz3 : wr.heap.size ≤ y3.i.heap.size := by have := y3.size; (try simp at this); omega
            have lA3 : w.heap.size + 1 < y3.i.heap.size := by omega
            have lB3 : w.heap.size < y3.i.heap.size := by omega
            by_cases h3 : a4 < p.2
            · have g3 : decide (a4 < p.2) = true := decide_eq_true h3
              go_wp2
              go_roundw
              case rel =>
                obtain ⟨q1, q2, q3, q4⟩ := Q.out
                refine ⟨k + 1, by omega, by go_num, ?_, ?_, ?_⟩
                · rw [q1, q2, q3, q4, show min a1 p.1 = a1 by omega, show min a2 p.2 = p.2 by omega, show max a3 p.1 = a3 by omega, show max a4 p.2 = p.2 by omega]
                  constructor <;> simp [go_sem, *]
                · constructor <;> simp [go_sem, *]
                · exact (hy3.setCell (p := ⟨w.heap.size + 1, 3, none⟩) (by simp) _)
              case measure => simp [intOf]; omega
            · have g3 : decide (a4 < p.2) = false := decide_eq_false h3
              go_wp2
              go_roundw
              case rel =>
                obtain ⟨q1, q2, q3, q4⟩ := Q.out
                refine ⟨k + 1, by omega, by go_num, ?_, ?_, ?_⟩
                · rw [q1, q2, q3, q4, show min a1 p.1 = a1 by omega, show min a2 p.2 = p.2 by omega, show max a3 p.1 = a3 by omega, show max a4 p.2 = a4 by omega]
                  constructor <;> simp [go_sem, *]
                · constructor <;> simp [go_sem, *]
                · exact hy3
              case measure => simp [intOf]; omega
          · have g2 : decide (p.2 < a2) = false := decide_eq_false h2
            go_wp2
            refine wp_region_bw wr.heap.size _ (Below.refl _ _) (by kernel_rfl) (by kernel_rfl) ?_
            repeat (go_big_quiet_step (fail))
            refine wpQuiet_nil ?_
            intro y3
            have hy3 : Below w.heap.size w y3.i := hy2.trans (y3.h.mono hbw.size)
            have sz3 : wr.heap.size ≤ y3.i.heap.size := by have := y3.size; (try simp at this); omega
            have lA3 : w.heap.size + 1 < y3.i.heap.size := by omega
            have lB3 : w.heap.size < y3.i.heap.size := by omega
            by_cases h3 : a4 < p.2
            · have g3 : decide (a4 < p.2) = true := decide_eq_true h3
              go_wp2
              go_roundw
              case rel =>
                obtain ⟨q1, q2, q3, q4⟩ := Q.out
                refine ⟨k + 1, by omega, by go_num, ?_, ?_, ?_⟩
                · rw [q1, q2, q3, q4, show min a1 p.1 = a1 by omega, show min a2 p.2 = a2 by omega, show max a3 p.1 = a3 by omega, show max a4 p.2 = p.2 by omega]
                  constructor <;> simp [go_sem, *]
                · constructor <;> simp [go_sem, *]
                · exact (hy3.setCell (p := ⟨w.heap.size + 1, 3, none⟩) (by simp) _)
              case measure => simp [intOf]; omega
            · have g3 : decide (a4 < p.2) = false := decide_eq_false h3
              go_wp2
              go_roundw
              case rel =>
                obtain ⟨q1, q2, q3, q4⟩ := Q.out
                refine ⟨k + 1, by omega, by go_num, ?_, ?_, ?_⟩
                · rw [q1, q2, q3, q4, show min a1 p.1 = a1 by omega, show min a2 p.2 = a2 by omega, show max a3 p.1 = a3 by omega, show max a4 p.2 = a4 by omega]
                  constructor <;> simp [go_sem, *]
                · constructor <;> simp [go_sem, *]
                · exact hy3
              case measure => simp [intOf]; omega
    · obtain rfl : k = n := by omega
      have e : upTo xs k = xs := by unfold upTo; rw [if_neg (by omega)]; exact List.take_of_length_le (by rw [HL.out]; omega)
      rw [e] at c0 c1 c2 c3
      go_wp2
      refine bodyPost_ret (v := .tuple #[.agg #[.int .i16 (loX xs), .int .i16 (loY xs), .int .i16 (hiX xs), .int .i16 (hiY xs)], .bool true]) (by simp [results, Try.results27, go_sem, v0, v1, v2, v3]) rfl (gives_of_eq rfl ?_)
      exact (((hbw.setCell (p := ⟨w.heap.size, 0, none⟩) (by simp) _).setCell (p := ⟨w.heap.size, 1, none⟩) (by simp) _).setCell (p := ⟨w.heap.size, 2, none⟩) (by simp) _).setCell (p := ⟨w.heap.size, 3, none⟩) (by simp) _

theorem rjoin_some (A : Option Addr) (n c : Nat) (xs : List (Int × Int)) (w : World) (h : PRd w w.heap.size A n xs) (hn : 0 < n) (hm : n ≤ 2097152) (hc : n ≤ c) :
    Calls Try.prog 27 #[.slice A n c] w (Gives (.tuple #[.agg #[.int .i16 (loX xs), .int .i16 (loY xs), .int .i16 (hiX xs), .int .i16 (hiY xs)], .bool true]) w) := by
  obtain ⟨b, off, rfl, hb, hcell⟩ := h.2.2 hn
  obtain ⟨p0, hp0⟩ : ∃ p0, xs[0]? = some p0 := ⟨_, List.getElem?_eq_getElem (by rw [h.1]; exact hn)⟩
  exact rjoin_some_at b off n c xs p0 w h.1 hb hn hm hc hp0 hcell

set_option maxHeartbeats 400000 in
theorem rjoin_none (A : Option Addr) (c : Nat) (w : World) : Calls Try.prog 27 #[.slice A 0 c] w (Gives (.tuple #[.agg #[.int .i16 0, .int .i16 0, .int .i16 0, .int .i16 0], .bool false]) w) := by
  go_enter Try.func27, Try.ntmps27
  go_wp2
  refine bodyPost_ret (v := .tuple #[.agg #[.int .i16 0, .int .i16 0, .int .i16 0, .int .i16 0], .bool false]) (by simp [results, Try.results27, go_sem]) rfl (gives_of_eq rfl ?_)
  exact (Below.refl _ w).alloc (Nat.le_refl _) _
end Go.Proofs.Ytilimgjmiijkiaa
