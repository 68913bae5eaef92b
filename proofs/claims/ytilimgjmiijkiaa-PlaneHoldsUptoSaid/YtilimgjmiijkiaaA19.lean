/- Contracts of the law's helpers, 19: lent points that are as they were are kept. -/
import Derived.Test.YtilimgjmiijkiaaA18
namespace Go.Proofs.Ytilimgjmiijkiaa
open Go.RowKit
attribute [local go_sem] BW.cell BW.frozen
set_option linter.unusedVariables false

set_option maxHeartbeats 2000000 in
theorem kept_some (g cap n c b off : Nat) (xs : List (Int × Int)) (w : World) (hr : Row w g cap n xs) (hl : xs.length = n) (hb : b < w.heap.size) (hn : 0 < n) (hm : n ≤ 1048576) (hc : n ≤ c)
    (hcell : ∀ i p, xs[i]? = some p → w.cell? ⟨b, off + i * 2, none⟩ = some (.int .i16 p.1) ∧ w.cell? ⟨b, off + i * 2 + 1, none⟩ = some (.int .i16 p.2)) :
    Calls Try.prog 29 #[.slice (some ⟨g, 0, none⟩) n cap, .slice (some ⟨b, off, none⟩) n c] w (Gives (.bool true) w) := by
  obtain ⟨m0, m1⟩ := hr.mark
  have hgl := hr.lt
  have hcap := hr.hn
  have hcap2 := hr.hc
  have HC := Lib.hid hcell
  have HL := Lib.hid hl
  have hrr : (∀ i p, xs[i]? = some p → w.cell? ⟨g, i * 2, none⟩ = some (.int .i16 p.1) ∧ w.cell? ⟨g, i * 2 + 1, none⟩ = some (.int .i16 p.2)) :=
    fun i p hp => hr.at (by rw [List.getElem?_append_left (List.getElem?_eq_some_iff.1 hp).1]; exact hp)
  have HR := Lib.hid hrr
  clear hcell hl hr hrr
  go_enter Try.func29, Try.ntmps29
  go_wp2
  go_loopw [5] (fun i wr => ∃ k : Nat, k ≤ n ∧ i = .int .i64 k ∧ Below w.heap.size w wr) (fun i _ => n - (intOf i).toNat)
  case atStart => exact ⟨0, Nat.zero_le _, rfl, Below.refl _ _⟩
  case round =>
    obtain ⟨k, hk, rfl, hbw⟩ := hrel
    by_cases hlt : k < n
    · obtain ⟨p, hp⟩ : ∃ p, xs[k]? = some p := ⟨_, List.getElem?_eq_getElem (by rw [HL.out]; exact hlt)⟩
      obtain ⟨c0, c1⟩ := HC.out k p hp
      obtain ⟨r0, r1⟩ := HR.out k p hp
      have d0 := (hbw.cell (p := ⟨b, off + k * 2, none⟩) hb).trans c0
      have d1 := (hbw.cell (p := ⟨b, off + k * 2 + 1, none⟩) hb).trans c1
      have e0 := (hbw.cell (p := ⟨g, k * 2, none⟩) hgl).trans r0
      have e1 := (hbw.cell (p := ⟨g, k * 2 + 1, none⟩) hgl).trans r1
      have bl : b < wr.heap.size := Nat.lt_of_lt_of_le hb hbw.size
      have gl : g < wr.heap.size := Nat.lt_of_lt_of_le hgl hbw.size
      clear c0 c1 r0 r1 hp m0 m1
      go_wp2
      refine wp_region_bw wr.heap.size _ (Below.refl _ _) (by kernel_rfl) (by kernel_rfl) ?_
      repeat (go_big_quiet_step (fail))
      refine wpQuiet_nil ?_
      intro x
      have hx : Below w.heap.size w x.i := hbw.trans (x.h.mono hbw.size)
      go_wp2
      go_roundw
      case rel => exact ⟨k + 1, hlt, by go_num, hx⟩
      case measure => simp [intOf]; omega
    · obtain rfl : k = n := by omega
      have e0 := (hbw.cell (p := ⟨g, k * 2, none⟩) hgl).trans m0
      have e1 := (hbw.cell (p := ⟨g, k * 2 + 1, none⟩) hgl).trans m1
      go_wp2
      go_ret
      exact gives_of_eq rfl hbw

set_option maxHeartbeats 2000000 in
theorem kept_none (A : Option Addr) (g cap c : Nat) (w : World) (hr : Row w g cap 0 []) :
    Calls Try.prog 29 #[.slice (some ⟨g, 0, none⟩) 0 cap, .slice A 0 c] w (Gives (.bool true) w) := by
  obtain ⟨m0, m1⟩ := hr.mark
  have hgl := hr.lt
  have hcap := hr.hn
  have hcap2 := hr.hc
  simp only [Nat.zero_mul] at m0 m1
  clear hr
  go_enter Try.func29, Try.ntmps29
  go_wp2
  refine wp_loop_rounds 1 ?_
  rw [rounds_succ]
  go_wp2
  go_ret
  exact gives_of_eq rfl (Below.refl _ _)

theorem kept_any (A : Option Addr) (g cap n c : Nat) (xs : List (Int × Int)) (w : World) (hr : Row w g cap n xs) (h : PRd w w.heap.size A n xs) (hm : n ≤ 1048576) (hc : n ≤ c) :
    Calls Try.prog 29 #[.slice (some ⟨g, 0, none⟩) n cap, .slice A n c] w (Gives (.bool true) w) := by
  rcases Nat.eq_zero_or_pos n with h0 | h0
  · subst h0
    have e : xs = [] := List.eq_nil_of_length_eq_zero h.1
    subst e
    exact kept_none A g cap c w hr
  · obtain ⟨b, off, rfl, hb, hcell⟩ := h.2.2 h0
    exact kept_some g cap n c b off xs w hr h.1 hb h0 hm hc hcell
end Go.Proofs.Ytilimgjmiijkiaa
