/- Contracts of plane and of the reference, 3: around, steps. -/
import Derived.Test.YtilimgjmiijkiaaA2
namespace Go.Proofs.Ytilimgjmiijkiaa
open Go.RowKit
attribute [local go_sem] BW.cell BW.frozen
set_option maxHeartbeats 1000000 in
theorem around_any (x y r : Int) (w : World) (h1 : -32768 ≤ x) (h2 : x ≤ 32767) (h3 : -32768 ≤ y) (h4 : y ≤ 32767) :
    Calls Try.prog 43 #[.agg #[.int .i16 x, .int .i16 y], .int .i64 r] w (Gives (.agg #[.int .i16 (cut (x - rad r)), .int .i16 (cut (y - rad r)), .int .i16 (cut (x + rad r)), .int .i16 (cut (y + rad r))]) w) := by
  have hr : (r < 0 ∧ rad r = 0) ∨ (131070 < r ∧ rad r = 131070) ∨ (0 ≤ r ∧ r ≤ 131070 ∧ rad r = r) := by unfold rad; split <;> (try split) <;> omega
  rcases hr with ⟨h5, h6⟩ | ⟨h5, h6⟩ | ⟨h5, h6, h7⟩
  · rw [h6]; clear h6
    go_enter Try.func43, Try.ntmps43
    go_wp2
    refine wp_region_bw (w.heap.size + 2) _ (Below.refl _ _) (by kernel_rfl) (by kernel_rfl) ?_
    repeat (go_big_quiet_step (fail))
    refine wpQuiet_nil ?_
    intro u
    go_wp2_with (go_at_call 58; refine (cut_any _ _).mono ?_; rintro e w' ⟨rfl, rfl⟩)
    refine bodyPost_ret (v := .agg #[.int .i16 (cut (x - 0)), .int .i16 (cut (y - 0)), .int .i16 (cut (x + 0)), .int .i16 (cut (y + 0))]) (by simp [results, Try.results43, go_sem]) rfl (gives_of ?_)
    exact ((((((((Below.refl _ w).alloc (Nat.le_refl _) _).alloc (by simp) _).trans (u.h.mono (by simp))).setCell (p := ⟨w.heap.size + 1, 0, none⟩) (by simp) _).setCell (p := ⟨w.heap.size + 1, 1, none⟩) (by simp) _).setCell (p := ⟨w.heap.size + 1, 2, none⟩) (by simp) _).setCell (p := ⟨w.heap.size + 1, 3, none⟩) (by simp) _)
  · rw [h6]; clear h6
    go_enter Try.func43, Try.ntmps43
    go_wp2
    refine wp_region_bw (w.heap.size + 2) _ (Below.refl _ _) (by kernel_rfl) (by kernel_rfl) ?_
    repeat (go_big_quiet_step (fail))
    refine wpQuiet_nil ?_
    intro u
    go_wp2_with (go_at_call 58; refine (cut_any _ _).mono ?_; rintro e w' ⟨rfl, rfl⟩)
    refine bodyPost_ret (v := .agg #[.int .i16 (cut (x - 131070)), .int .i16 (cut (y - 131070)), .int .i16 (cut (x + 131070)), .int .i16 (cut (y + 131070))]) (by simp [results, Try.results43, go_sem]) rfl (gives_of ?_)
    exact ((((((((Below.refl _ w).alloc (Nat.le_refl _) _).alloc (by simp) _).trans (u.h.mono (by simp))).setCell (p := ⟨w.heap.size + 1, 0, none⟩) (by simp) _).setCell (p := ⟨w.heap.size + 1, 1, none⟩) (by simp) _).setCell (p := ⟨w.heap.size + 1, 2, none⟩) (by simp) _).setCell (p := ⟨w.heap.size + 1, 3, none⟩) (by simp) _)
  · rw [h7]; clear h7
    go_enter Try.func43, Try.ntmps43
    go_wp2
    refine wp_region_bw (w.heap.size + 2) _ (Below.refl _ _) (by kernel_rfl) (by kernel_rfl) ?_
    repeat (go_big_quiet_step (fail))
    refine wpQuiet_nil ?_
    intro u
    go_wp2_with (go_at_call 58; refine (cut_any _ _).mono ?_; rintro e w' ⟨rfl, rfl⟩)
    refine bodyPost_ret (v := .agg #[.int .i16 (cut (x - r)), .int .i16 (cut (y - r)), .int .i16 (cut (x + r)), .int .i16 (cut (y + r))]) (by simp [results, Try.results43, go_sem]) rfl (gives_of ?_)
    exact ((((((((Below.refl _ w).alloc (Nat.le_refl _) _).alloc (by simp) _).trans (u.h.mono (by simp))).setCell (p := ⟨w.heap.size + 1, 0, none⟩) (by simp) _).setCell (p := ⟨w.heap.size + 1, 1, none⟩) (by simp) _).setCell (p := ⟨w.heap.size + 1, 2, none⟩) (by simp) _).setCell (p := ⟨w.heap.size + 1, 3, none⟩) (by simp) _)

/-- the reference cuts the radius at 65535, the plane at 131070: the same boxes -/
def rrad (r : Int) : Int := if r < 0 then 0 else if 65535 < r then 65535 else r
theorem cut_rad (x r : Int) (h1 : -32768 ≤ x) (h2 : x ≤ 32767) : cut (x - rrad r) = cut (x - rad r) ∧ cut (x + rrad r) = cut (x + rad r) := by
  unfold cut rrad rad
  constructor
  · split <;> split <;> (try split) <;> (try split) <;> (try split) <;> (try split) <;> (try split) <;> omega
  · split <;> split <;> (try split) <;> (try split) <;> (try split) <;> (try split) <;> (try split) <;> omega
end Go.Proofs.Ytilimgjmiijkiaa
