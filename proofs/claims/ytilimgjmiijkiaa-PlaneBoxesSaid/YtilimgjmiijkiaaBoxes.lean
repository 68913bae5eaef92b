/- PlaneBoxes: whether a point lies in a box is what the reference says. No conditions. -/
import Derived.Test.YtilimgjmiijkiaaL
import Derived.Test.YtilimgjmiijkiaaA2
import Derived.Test.YtilimgjmiijkiaaA14
import Derived.Test.YtilimgjmiijkiaaRows
namespace Go.Proofs.Ytilimgjmiijkiaa
open Go.ChangeShapes Go.WideShapes Go.ChangeAt Go.RowKit Go.Joins
attribute [local go_sem] BW.cell BW.frozen

set_option maxHeartbeats 1000000 in
theorem boxes_law (x y a b c d : Int) (w : World) :
    Calls Try.prog 17 #[.agg #[.int .i16 x, .int .i16 y], .agg #[.int .i16 a, .int .i16 b, .int .i16 c, .int .i16 d]] w (Gives (.bool true) w) := by
  have hi := inside_any x y a b c d
  have hr := rinside_any x y a b c d
  generalize ins x y a b c d = I at *
  go_enter Try.func17, Try.ntmps17
  go_wp2
  refine wp_region_bw (w.heap.size + 2) _ (Below.refl _ _) (by kernel_rfl) (by kernel_rfl) ?_
  repeat (go_big_quiet_step ((first
    | (go_at_call 44; exact Calls.bw_of (by simp) (hi _))
    | (go_at_call 45; exact Calls.bw_of (by simp) (hr _))
    | (go_at_call 23; exact Calls.bw_of (by simp) (lives_any _)))))
  refine wpQuiet_nil ?_
  intro x
  go_wp2
  go_ret
  exact gives_of_eq rfl ((((Below.refl _ w).alloc (Nat.le_refl _) _).alloc (by simp) _).trans (x.h.mono (by simp)))

set_option maxRecDepth 100000 in
theorem boxes_lifted (os : Os) (started : os.Started) (H : Type) (enc : TypeId × Value → H) :
    ReturnsInHanded {} Try.checked os 17 .any (Rows.planeBoxesSpec.pre6 enc Try.prog Try.f17 Rows.planeBoxesRow.domain false) (Rows.planeBoxesSpec.post enc Try.prog Try.f17 false true false false) := by
  refine returnsInHanded_of_change (C := Try.checked) Try.own started (by kernel_rfl) Try.func17
    (ChangeSpec.witness6 (enc := enc) (C := Try.checked) false ⟨#[], #[.agg #[.int .i16 0, .int .i16 0], .agg #[.int .i16 0, .int .i16 0, .int .i16 0, .int .i16 0]], []⟩ 8 (by kernel_rfl) (by kernel_rfl) (by kernel_rfl) (by kernel_rfl)) ?_
  intro W base args ds gs before hval0 hW hcnd _
  have hval : ∀ (j : Nat) t v, Try.f17.params[j]? = some t → args[j]? = some v → Value.okWide Try.prog W .any base t v := hval0
  have hW' := hW
  obtain ⟨p, q, hA0, hV, rfl, hfz, hnd⟩ := hW
  have hA : DataW.TrodAll enc Try.prog W 0 (fun _ => true) true Try.f17.params.toList args.toList ds p := hA0
  rw [Try.params17] at hA hval
  obtain ⟨v0, v1, d0, d1, p0, p1, rfl, rfl, rfl, h0, h1⟩ := trodAll_two hA
  obtain ⟨rfl, rfl⟩ := trodVars_none hV
  obtain ⟨a0x, a0y, rfl, rfl, rfl, g00, g01, g02, g03⟩ := open_pt (hval 0 24 _ rfl rfl) h0
  obtain ⟨a1x, a1y, a1z, a1u, rfl, rfl, rfl, g10, g11, g12, g13, g14, g15, g16, g17⟩ := open_box (hval 1 33 _ rfl rfl) h1
  refine (boxes_law _ _ _ _ _ _ W).mono fun e W2 ⟨he, x, hx⟩ => ⟨_, he, ?_⟩
  exact law_post hW' rfl rfl rfl (by kernel_rfl) (hx ▸ x.h)

theorem boxes_holds : Rows.PlaneBoxesSaid :=
  OpenClaim.holds_of_wide 17 Try.f17 rfl rfl rfl rfl rfl rfl rfl ⟨rfl, rfl, rfl, rfl, rfl⟩ rfl rfl rfl rfl rfl (by kernel_rfl) Try.func17 (by kernel_rfl)
    (of_decide_eq_true (by kernel_rfl)) (by unfold Func.isWrapper; rw [if_neg (of_decide_eq_false (by kernel_rfl))]; exact ⟨rfl, rfl⟩)
    (fun os started H enc _ => boxes_lifted os started H enc)
end Go.Proofs.Ytilimgjmiijkiaa
