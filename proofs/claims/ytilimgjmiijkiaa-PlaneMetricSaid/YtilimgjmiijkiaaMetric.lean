/- PlaneMetric: plane's distance is a distance, and at most 131070. No conditions. -/
import Derived.Test.YtilimgjmiijkiaaL
import Derived.Test.YtilimgjmiijkiaaA1
import Derived.Test.YtilimgjmiijkiaaA14
import Derived.Test.YtilimgjmiijkiaaA15
import Derived.Test.YtilimgjmiijkiaaRows
namespace Go.Proofs.Ytilimgjmiijkiaa
open Go.ChangeShapes Go.WideShapes Go.ChangeAt Go.RowKit Go.Joins Ieee
attribute [local go_sem] BW.cell BW.frozen
set_option linter.unusedVariables false

theorem apart_facts (a b c : Int) : 0 ≤ apart a b ∧ (apart a b = 0 ↔ a = b) ∧ apart b a = apart a b ∧ apart a c ≤ apart a b + apart b c ∧ apart a a = 0 ∧ ((-32768 ≤ a ∧ a ≤ 32767 ∧ -32768 ≤ b ∧ b ≤ 32767) → apart a b ≤ 65535) := by
  unfold apart
  refine ⟨?_, ?_, ?_, ?_, ?_, fun h => ?_⟩ <;> (repeat' split) <;> omega


set_option maxHeartbeats 1000000 in
theorem metric_same (ax ay cx cy x y z : Int) (w : World)
    (h1 : ∀ w, Calls Try.prog 21 #[.agg #[.int .i16 ax, .int .i16 ay], .agg #[.int .i16 ax, .int .i16 ay]] w (Gives (.int .i64 x) w))
    (h2 : ∀ w, Calls Try.prog 21 #[.agg #[.int .i16 ax, .int .i16 ay], .agg #[.int .i16 cx, .int .i16 cy]] w (Gives (.int .i64 y) w))
    (h3 : ∀ w, Calls Try.prog 21 #[.agg #[.int .i16 ax, .int .i16 ay], .agg #[.int .i16 cx, .int .i16 cy]] w (Gives (.int .i64 z) w))
    (h4 : ∀ w, Calls Try.prog 21 #[.agg #[.int .i16 ax, .int .i16 ay], .agg #[.int .i16 ax, .int .i16 ay]] w (Gives (.int .i64 0) w))
    (h5 : ∀ w, Calls Try.prog 21 #[.agg #[.int .i16 ax, .int .i16 ay], .agg #[.int .i16 ax, .int .i16 ay]] w (Gives (.int .i64 x) w))
    (f1 : 0 ≤ x) (f2 : x ≤ 131070) (f3 : 0 ≤ y) (f4 : y ≤ 131070) (f5 : z ≤ x + y) (f6 : 0 ≤ z) (f0 : x = 0) :
    Calls Try.prog 11 #[.agg #[.int .i16 ax, .int .i16 ay], .agg #[.int .i16 ax, .int .i16 ay], .agg #[.int .i16 cx, .int .i16 cy]] w (Gives (.bool true) w) := by
  have K1 := Lib.hid h1
  have K2 := Lib.hid h2
  have K3 := Lib.hid h3
  have K4 := Lib.hid h4
  have K5 := Lib.hid h5
  clear h1 h2 h3 h4 h5
  go_enter Try.func11, Try.ntmps11
  go_wp2_with fail
  refine (Calls.bw_at (B := w.heap.size + 3) (Below.refl _ _) (by simp) (K1.out _)).mono ?_
  rintro e w' ⟨rfl, z1, rfl⟩
  go_wp2_with fail
  refine (Calls.bw_of (by simp) (K2.out _)).mono ?_
  rintro e w' ⟨rfl, z2, rfl⟩
  go_wp2_with fail
  refine (Calls.bw_of (by simp) (K3.out _)).mono ?_
  rintro e w' ⟨rfl, z3, rfl⟩
  go_wp2_with fail
  refine (Calls.bw_of (by simp) (K4.out _)).mono ?_
  rintro e w' ⟨rfl, z4, rfl⟩
  go_wp2_with fail
  refine (Calls.bw_of (by simp) (K5.out _)).mono ?_
  rintro e w' ⟨rfl, z5, rfl⟩
  go_wp2_with fail
  refine (Calls.bw_of (by simp) (lives_any _)).mono ?_
  rintro e w' ⟨rfl, z6, rfl⟩
  go_wp2
  go_ret
  exact gives_of_eq rfl (((((Below.refl _ w).alloc (Nat.le_refl _) _).alloc (by simp) _).alloc (by simp <;> omega) _).trans (z6.h.mono (by simp)))

set_option maxHeartbeats 1000000 in
theorem metric_col (ax ay b_y cx cy x y z : Int) (w : World)
    (h1 : ∀ w, Calls Try.prog 21 #[.agg #[.int .i16 ax, .int .i16 ay], .agg #[.int .i16 ax, .int .i16 b_y]] w (Gives (.int .i64 x) w))
    (h2 : ∀ w, Calls Try.prog 21 #[.agg #[.int .i16 ax, .int .i16 b_y], .agg #[.int .i16 cx, .int .i16 cy]] w (Gives (.int .i64 y) w))
    (h3 : ∀ w, Calls Try.prog 21 #[.agg #[.int .i16 ax, .int .i16 ay], .agg #[.int .i16 cx, .int .i16 cy]] w (Gives (.int .i64 z) w))
    (h4 : ∀ w, Calls Try.prog 21 #[.agg #[.int .i16 ax, .int .i16 ay], .agg #[.int .i16 ax, .int .i16 ay]] w (Gives (.int .i64 0) w))
    (h5 : ∀ w, Calls Try.prog 21 #[.agg #[.int .i16 ax, .int .i16 b_y], .agg #[.int .i16 ax, .int .i16 ay]] w (Gives (.int .i64 x) w))
    (f1 : 0 ≤ x) (f2 : x ≤ 131070) (f3 : 0 ≤ y) (f4 : y ≤ 131070) (f5 : z ≤ x + y) (f6 : 0 ≤ z) (f0 : ¬ x = 0) (f7 : ¬ ay = b_y) :
    Calls Try.prog 11 #[.agg #[.int .i16 ax, .int .i16 ay], .agg #[.int .i16 ax, .int .i16 b_y], .agg #[.int .i16 cx, .int .i16 cy]] w (Gives (.bool true) w) := by
  have K1 := Lib.hid h1
  have K2 := Lib.hid h2
  have K3 := Lib.hid h3
  have K4 := Lib.hid h4
  have K5 := Lib.hid h5
  clear h1 h2 h3 h4 h5
  go_enter Try.func11, Try.ntmps11
  go_wp2_with fail
  refine (Calls.bw_at (B := w.heap.size + 3) (Below.refl _ _) (by simp) (K1.out _)).mono ?_
  rintro e w' ⟨rfl, z1, rfl⟩
  go_wp2_with fail
  refine (Calls.bw_of (by simp) (K2.out _)).mono ?_
  rintro e w' ⟨rfl, z2, rfl⟩
  go_wp2_with fail
  refine (Calls.bw_of (by simp) (K3.out _)).mono ?_
  rintro e w' ⟨rfl, z3, rfl⟩
  go_wp2_with fail
  refine (Calls.bw_of (by simp) (K4.out _)).mono ?_
  rintro e w' ⟨rfl, z4, rfl⟩
  go_wp2_with fail
  refine (Calls.bw_of (by simp) (K5.out _)).mono ?_
  rintro e w' ⟨rfl, z5, rfl⟩
  go_wp2_with fail
  refine (Calls.bw_of (by simp) (lives_any _)).mono ?_
  rintro e w' ⟨rfl, z6, rfl⟩
  go_wp2
  go_ret
  exact gives_of_eq (by simp [f0]) (((((Below.refl _ w).alloc (Nat.le_refl _) _).alloc (by simp) _).alloc (by simp <;> omega) _).trans (z6.h.mono (by simp)))

set_option maxHeartbeats 1000000 in
theorem metric_row (ax ay bx b_y cx cy x y z : Int) (w : World)
    (h1 : ∀ w, Calls Try.prog 21 #[.agg #[.int .i16 ax, .int .i16 ay], .agg #[.int .i16 bx, .int .i16 b_y]] w (Gives (.int .i64 x) w))
    (h2 : ∀ w, Calls Try.prog 21 #[.agg #[.int .i16 bx, .int .i16 b_y], .agg #[.int .i16 cx, .int .i16 cy]] w (Gives (.int .i64 y) w))
    (h3 : ∀ w, Calls Try.prog 21 #[.agg #[.int .i16 ax, .int .i16 ay], .agg #[.int .i16 cx, .int .i16 cy]] w (Gives (.int .i64 z) w))
    (h4 : ∀ w, Calls Try.prog 21 #[.agg #[.int .i16 ax, .int .i16 ay], .agg #[.int .i16 ax, .int .i16 ay]] w (Gives (.int .i64 0) w))
    (h5 : ∀ w, Calls Try.prog 21 #[.agg #[.int .i16 bx, .int .i16 b_y], .agg #[.int .i16 ax, .int .i16 ay]] w (Gives (.int .i64 x) w))
    (f1 : 0 ≤ x) (f2 : x ≤ 131070) (f3 : 0 ≤ y) (f4 : y ≤ 131070) (f5 : z ≤ x + y) (f6 : 0 ≤ z) (f0 : ¬ x = 0) (f7 : ¬ ax = bx) :
    Calls Try.prog 11 #[.agg #[.int .i16 ax, .int .i16 ay], .agg #[.int .i16 bx, .int .i16 b_y], .agg #[.int .i16 cx, .int .i16 cy]] w (Gives (.bool true) w) := by
  have K1 := Lib.hid h1
  have K2 := Lib.hid h2
  have K3 := Lib.hid h3
  have K4 := Lib.hid h4
  have K5 := Lib.hid h5
  clear h1 h2 h3 h4 h5
  go_enter Try.func11, Try.ntmps11
  go_wp2_with fail
  refine (Calls.bw_at (B := w.heap.size + 3) (Below.refl _ _) (by simp) (K1.out _)).mono ?_
  rintro e w' ⟨rfl, z1, rfl⟩
  go_wp2_with fail
  refine (Calls.bw_of (by simp) (K2.out _)).mono ?_
  rintro e w' ⟨rfl, z2, rfl⟩
  go_wp2_with fail
  refine (Calls.bw_of (by simp) (K3.out _)).mono ?_
  rintro e w' ⟨rfl, z3, rfl⟩
  go_wp2_with fail
  refine (Calls.bw_of (by simp) (K4.out _)).mono ?_
  rintro e w' ⟨rfl, z4, rfl⟩
  go_wp2_with fail
  refine (Calls.bw_of (by simp) (K5.out _)).mono ?_
  rintro e w' ⟨rfl, z5, rfl⟩
  go_wp2_with fail
  refine (Calls.bw_of (by simp) (lives_any _)).mono ?_
  rintro e w' ⟨rfl, z6, rfl⟩
  go_wp2
  go_ret
  exact gives_of_eq (by simp [f0]) (((((Below.refl _ w).alloc (Nat.le_refl _) _).alloc (by simp) _).alloc (by simp <;> omega) _).trans (z6.h.mono (by simp)))

theorem metric_law (ax ay bx b_y cx cy : Int) (w : World) (h1 : -32768 ≤ ax) (h2 : ax ≤ 32767) (h3 : -32768 ≤ ay) (h4 : ay ≤ 32767) (h5 : -32768 ≤ bx) (h6 : bx ≤ 32767) (h7 : -32768 ≤ b_y) (h8 : b_y ≤ 32767) (h9 : -32768 ≤ cx) (h10 : cx ≤ 32767) (h11 : -32768 ≤ cy) (h12 : cy ≤ 32767) :
    Calls Try.prog 11 #[.agg #[.int .i16 ax, .int .i16 ay], .agg #[.int .i16 bx, .int .i16 b_y], .agg #[.int .i16 cx, .int .i16 cy]] w (Gives (.bool true) w) := by
  have k1 := fun w => dist_any ax ay bx b_y w h1 h2 h3 h4 h5 h6 h7 h8
  have k2 := fun w => dist_any bx b_y cx cy w h5 h6 h7 h8 h9 h10 h11 h12
  have k3 := fun w => dist_any ax ay cx cy w h1 h2 h3 h4 h9 h10 h11 h12
  have k4 := fun w => dist_any ax ay ax ay w h1 h2 h3 h4 h1 h2 h3 h4
  have k5 := fun w => dist_any bx b_y ax ay w h5 h6 h7 h8 h1 h2 h3 h4
  obtain ⟨a1, a2, a3, a4, a5, a6⟩ := apart_facts ax bx cx
  obtain ⟨b1, b2, b3, b4, b5, b6⟩ := apart_facts ay b_y cy
  obtain ⟨c1, _, _, _, _, c6⟩ := apart_facts bx cx 0
  obtain ⟨d1, _, _, _, _, d6⟩ := apart_facts b_y cy 0
  obtain ⟨e1, _, _, _, _, e6⟩ := apart_facts ax cx 0
  obtain ⟨g1, _, _, _, _, g6⟩ := apart_facts ay cy 0
  rw [a5, b5] at k4
  rw [a3, b3] at k5
  have a7 := a6 (by omega)
  have b7 := b6 (by omega)
  have c7 := c6 (by omega)
  have d7 := d6 (by omega)
  by_cases hx : ax = bx
  · by_cases hy : ay = b_y
    · subst hx; subst hy
      exact metric_same ax ay cx cy _ _ _ w k1 k2 k3 k4 k5 (by omega) (by omega) (by omega) (by omega) (by omega) (by omega) (by omega)
    · subst hx
      exact metric_col ax ay b_y cx cy _ _ _ w k1 k2 k3 k4 k5 (by omega) (by omega) (by omega) (by omega) (by omega) (by omega) (by omega) hy
  · exact metric_row ax ay bx b_y cx cy _ _ _ w k1 k2 k3 k4 k5 (by omega) (by omega) (by omega) (by omega) (by omega) (by omega) (by omega) hx

set_option maxRecDepth 100000 in
theorem metric_lifted (os : Os) (started : os.Started) (H : Type) (enc : TypeId × Value → H) :
    ReturnsInHanded {} Try.checked os 11 .any (Rows.planeMetricSpec.pre6 enc Try.prog Try.f11 Rows.planeMetricRow.domain false) (Rows.planeMetricSpec.post enc Try.prog Try.f11 false true false false) := by
  refine returnsInHanded_of_change (C := Try.checked) Try.own started (by kernel_rfl) Try.func11
    (ChangeSpec.witness6 (enc := enc) (C := Try.checked) false ⟨#[], #[.agg #[.int .i16 0, .int .i16 0], .agg #[.int .i16 0, .int .i16 0], .agg #[.int .i16 0, .int .i16 0]], []⟩ 8 (by kernel_rfl) (by kernel_rfl) (by kernel_rfl) (by kernel_rfl)) ?_
  intro W base args ds gs before hval0 hW hcnd _
  have hval : ∀ (j : Nat) t v, Try.f11.params[j]? = some t → args[j]? = some v → Value.okWide Try.prog W .any base t v := hval0
  have hW' := hW
  obtain ⟨p, q, hA0, hV, rfl, hfz, hnd⟩ := hW
  have hA : DataW.TrodAll enc Try.prog W 0 (fun _ => true) true Try.f11.params.toList args.toList ds p := hA0
  rw [Try.params11] at hA hval
  obtain ⟨v0, v1, v2, d0, d1, d2, p0, p1, p2, rfl, rfl, rfl, h0, h1, h2⟩ := trodAll_three hA
  obtain ⟨rfl, rfl⟩ := trodVars_none hV
  obtain ⟨a0x, a0y, rfl, rfl, rfl, g00, g01, g02, g03⟩ := open_pt (hval 0 24 _ rfl rfl) h0
  obtain ⟨a1x, a1y, rfl, rfl, rfl, g10, g11, g12, g13⟩ := open_pt (hval 1 24 _ rfl rfl) h1
  obtain ⟨a2x, a2y, rfl, rfl, rfl, g20, g21, g22, g23⟩ := open_pt (hval 2 24 _ rfl rfl) h2
  refine (metric_law _ _ _ _ _ _ W g00 g01 g02 g03 g10 g11 g12 g13 g20 g21 g22 g23).mono fun e W2 ⟨he, x, hx⟩ => ⟨_, he, ?_⟩
  exact law_post hW' rfl rfl rfl (by kernel_rfl) (hx ▸ x.h)

theorem metric_holds : Rows.PlaneMetricSaid :=
  OpenClaim.holds_of_wide 11 Try.f11 rfl rfl rfl rfl rfl rfl rfl ⟨rfl, rfl, rfl, rfl, rfl⟩ rfl rfl rfl rfl rfl (by kernel_rfl) Try.func11 (by kernel_rfl)
    (of_decide_eq_true (by kernel_rfl)) (by unfold Func.isWrapper; rw [if_neg (of_decide_eq_false (by kernel_rfl))]; exact ⟨rfl, rfl⟩)
    (fun os started H enc _ => metric_lifted os started H enc)
end Go.Proofs.Ytilimgjmiijkiaa
