/- PlaneDists: plane's distance of any two points is the reference's. No conditions. -/
import Derived.Test.YtilimgjmiijkiaaL
import Derived.Test.YtilimgjmiijkiaaA14
import Derived.Test.YtilimgjmiijkiaaRows
namespace Go.Proofs.Ytilimgjmiijkiaa
open Go.ChangeShapes Go.WideShapes Go.ChangeAt Go.RowKit Go.Joins
attribute [local go_sem] BW.cell BW.frozen

set_option maxHeartbeats 1000000 in
theorem dists_law (ax ay bx b_y : Int) (w : World) (h1 : -32768 ≤ ax) (h2 : ax ≤ 32767) (h3 : -32768 ≤ ay) (h4 : ay ≤ 32767) (h5 : -32768 ≤ bx) (h6 : bx ≤ 32767) (h7 : -32768 ≤ b_y) (h8 : b_y ≤ 32767) :
    Calls Try.prog 3 #[.agg #[.int .i16 ax, .int .i16 ay], .agg #[.int .i16 bx, .int .i16 b_y]] w (Gives (.bool true) w) := by
  go_enter Try.func3, Try.ntmps3
  go_wp2
  refine wp_region_bw (w.heap.size + 2) _ (Below.refl _ _) (by kernel_rfl) (by kernel_rfl) ?_
  repeat (go_big_quiet_step ((first
    | (go_at_call 21; exact Calls.bw_of (by simp) (dist_any _ _ _ _ _ h1 h2 h3 h4 h5 h6 h7 h8))
    | (go_at_call 22; exact Calls.bw_of (by simp) (rdist_any _ _ _ _ _ h1 h2 h3 h4 h5 h6 h7 h8))
    | (go_at_call 23; exact Calls.bw_of (by simp) (lives_any _)))))
  refine wpQuiet_nil ?_
  intro x
  go_wp2
  go_ret
  exact gives_of_eq rfl ((((Below.refl _ w).alloc (Nat.le_refl _) _).alloc (by simp) _).trans (x.h.mono (by simp)))

set_option maxRecDepth 100000 in
theorem dists_lifted (os : Os) (started : os.Started) (H : Type) (enc : TypeId × Value → H) :
    ReturnsInHanded {} Try.checked os 3 .any (Rows.planeDistsSpec.pre6 enc Try.prog Try.f3 Rows.planeDistsRow.domain false) (Rows.planeDistsSpec.post enc Try.prog Try.f3 false true false false) := by
  refine returnsInHanded_of_change (C := Try.checked) Try.own started (by kernel_rfl) Try.func3
    (ChangeSpec.witness6 (enc := enc) (C := Try.checked) false ⟨#[], #[.agg #[.int .i16 0, .int .i16 0], .agg #[.int .i16 0, .int .i16 0]], []⟩ 8 (by kernel_rfl) (by kernel_rfl) (by kernel_rfl) (by kernel_rfl)) ?_
  intro W base args ds gs before hval0 hW hcnd _
  have hval : ∀ (j : Nat) t v, Try.f3.params[j]? = some t → args[j]? = some v → Value.okWide Try.prog W .any base t v := hval0
  have hW' := hW
  obtain ⟨p, q, hA0, hV, rfl, hfz, hnd⟩ := hW
  have hA : DataW.TrodAll enc Try.prog W 0 (fun _ => true) true Try.f3.params.toList args.toList ds p := hA0
  rw [Try.params3] at hA hval
  obtain ⟨v0, v1, d0, d1, p0, p1, rfl, rfl, rfl, h0, h1⟩ := trodAll_two hA
  obtain ⟨rfl, rfl⟩ := trodVars_none hV
  obtain ⟨ax, ay, rfl, rfl, rfl, g1, g2, g3, g4⟩ := open_pt (hval 0 24 v0 rfl rfl) h0
  obtain ⟨bx, b_y, rfl, rfl, rfl, g5, g6, g7, g8⟩ := open_pt (hval 1 24 v1 rfl rfl) h1
  refine (dists_law ax ay bx b_y W g1 g2 g3 g4 g5 g6 g7 g8).mono fun e W2 ⟨he, x, hx⟩ => ⟨_, he, ?_⟩
  exact law_post hW' rfl rfl rfl (by kernel_rfl) (hx ▸ x.h)

theorem dists_holds : Rows.PlaneDistsSaid :=
  OpenClaim.holds_of_wide 3 Try.f3 rfl rfl rfl rfl rfl rfl rfl ⟨rfl, rfl, rfl, rfl, rfl⟩ rfl rfl rfl rfl rfl (by kernel_rfl) Try.func3 (by kernel_rfl)
    (of_decide_eq_true (by kernel_rfl)) (by unfold Func.isWrapper; rw [if_neg (of_decide_eq_false (by kernel_rfl))]; exact ⟨rfl, rfl⟩)
    (fun os started H enc _ => dists_lifted os started H enc)
end Go.Proofs.Ytilimgjmiijkiaa
