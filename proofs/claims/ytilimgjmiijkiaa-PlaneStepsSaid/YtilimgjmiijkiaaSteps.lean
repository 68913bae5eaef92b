/- PlaneSteps: plane's step is the reference's, for any two points and any number. No conditions. -/
import Derived.Test.YtilimgjmiijkiaaL
import Derived.Test.YtilimgjmiijkiaaA5
import Derived.Test.YtilimgjmiijkiaaA14
import Derived.Test.YtilimgjmiijkiaaRows
namespace Go.Proofs.Ytilimgjmiijkiaa
open Go.ChangeShapes Go.WideShapes Go.ChangeAt Go.RowKit Go.Joins
attribute [local go_sem] BW.cell BW.frozen

set_option maxHeartbeats 1000000 in
theorem steps_core (X Y fx fy tx ty n : Int) (w : World)
    (hs : ∀ w, Calls Try.prog 24 #[.agg #[.int .i16 fx, .int .i16 fy], .agg #[.int .i16 tx, .int .i16 ty], .int .i64 n] w (Gives (.agg #[.int .i16 X, .int .i16 Y]) w))
    (hr : ∀ w, Calls Try.prog 25 #[.agg #[.int .i16 fx, .int .i16 fy], .agg #[.int .i16 tx, .int .i16 ty], .int .i64 n] w (Gives (.agg #[.int .i16 X, .int .i16 Y]) w)) :
    Calls Try.prog 4 #[.agg #[.int .i16 fx, .int .i16 fy], .agg #[.int .i16 tx, .int .i16 ty], .int .i64 n] w (Gives (.bool true) w) := by
  go_enter Try.func4, Try.ntmps4
  go_wp2
  refine wp_region_bw (w.heap.size + 2) _ (Below.refl _ _) (by kernel_rfl) (by kernel_rfl) ?_
  repeat (go_big_quiet_step ((first
    | (go_at_call 24; exact Calls.bw_of (by simp) (hs _))
    | (go_at_call 25; exact Calls.bw_of (by simp) (hr _))
    | (go_at_call 23; exact Calls.bw_of (by simp) (lives_any _)))))
  refine wpQuiet_nil ?_
  intro x
  go_wp2
  go_ret
  exact gives_of_eq rfl ((((Below.refl _ w).alloc (Nat.le_refl _) _).alloc (by simp) _).trans (x.h.mono (by simp)))

theorem steps_law (fx fy tx ty n : Int) (w : World) (h1 : -32768 ≤ fx) (h2 : fx ≤ 32767) (h3 : -32768 ≤ fy) (h4 : fy ≤ 32767) (h5 : -32768 ≤ tx) (h6 : tx ≤ 32767) (h7 : -32768 ≤ ty) (h8 : ty ≤ 32767) (hn : n ≤ 9223372036854775807) :
    Calls Try.prog 4 #[.agg #[.int .i16 fx, .int .i16 fy], .agg #[.int .i16 tx, .int .i16 ty], .int .i64 n] w (Gives (.bool true) w) := by
  obtain ⟨e1, e2⟩ := rstep_eq fx fy tx ty n
  refine steps_core _ _ fx fy tx ty n w (fun w => step_any fx fy tx ty n w h1 h2 h3 h4 h5 h6 h7 h8) (fun w => ?_)
  have h := rstep_any fx fy tx ty n w h1 h2 h3 h4 h5 h6 h7 h8 hn
  rw [e1, e2] at h
  exact h

set_option maxRecDepth 100000 in
theorem steps_lifted (os : Os) (started : os.Started) (H : Type) (enc : TypeId × Value → H) :
    ReturnsInHanded {} Try.checked os 4 .any (Rows.planeStepsSpec.pre6 enc Try.prog Try.f4 Rows.planeStepsRow.domain false) (Rows.planeStepsSpec.post enc Try.prog Try.f4 false true false false) := by
  refine returnsInHanded_of_change (C := Try.checked) Try.own started (by kernel_rfl) Try.func4
    (ChangeSpec.witness6 (enc := enc) (C := Try.checked) false ⟨#[], #[.agg #[.int .i16 0, .int .i16 0], .agg #[.int .i16 0, .int .i16 0], .int .i64 0], []⟩ 8 (by kernel_rfl) (by kernel_rfl) (by kernel_rfl) (by kernel_rfl)) ?_
  intro W base args ds gs before hval0 hW hcnd _
  have hval : ∀ (j : Nat) t v, Try.f4.params[j]? = some t → args[j]? = some v → Value.okWide Try.prog W .any base t v := hval0
  have hW' := hW
  obtain ⟨p, q, hA0, hV, rfl, hfz, hnd⟩ := hW
  have hA : DataW.TrodAll enc Try.prog W 0 (fun _ => true) true Try.f4.params.toList args.toList ds p := hA0
  rw [Try.params4] at hA hval
  obtain ⟨v0, v1, v2, d0, d1, d2, p0, p1, p2, rfl, rfl, rfl, h0, h1, h2⟩ := trodAll_three hA
  obtain ⟨rfl, rfl⟩ := trodVars_none hV
  obtain ⟨a0x, a0y, rfl, rfl, rfl, g00, g01, g02, g03⟩ := open_pt (hval 0 24 _ rfl rfl) h0
  obtain ⟨a1x, a1y, rfl, rfl, rfl, g10, g11, g12, g13⟩ := open_pt (hval 1 24 _ rfl rfl) h1
  obtain ⟨a2x, rfl, rfl, rfl, g20, g21⟩ := open_i (hval 2 3 _ rfl rfl) h2
  refine (steps_law _ _ _ _ _ W g00 g01 g02 g03 g10 g11 g12 g13 g21).mono fun e W2 ⟨he, x, hx⟩ => ⟨_, he, ?_⟩
  exact law_post hW' rfl rfl rfl (by kernel_rfl) (hx ▸ x.h)

theorem steps_holds : Rows.PlaneStepsSaid :=
  OpenClaim.holds_of_wide 4 Try.f4 rfl rfl rfl rfl rfl rfl rfl ⟨rfl, rfl, rfl, rfl, rfl⟩ rfl rfl rfl rfl rfl (by kernel_rfl) Try.func4 (by kernel_rfl)
    (of_decide_eq_true (by kernel_rfl)) (by unfold Func.isWrapper; rw [if_neg (of_decide_eq_false (by kernel_rfl))]; exact ⟨rfl, rfl⟩)
    (fun os started H enc _ => steps_lifted os started H enc)
end Go.Proofs.Ytilimgjmiijkiaa
