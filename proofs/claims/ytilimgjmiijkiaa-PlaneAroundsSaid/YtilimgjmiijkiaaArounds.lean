/- PlaneArounds: the box around a point, and what lies in it, is what the reference says. No conditions. -/
import Derived.Test.YtilimgjmiijkiaaL
import Derived.Test.YtilimgjmiijkiaaA4
import Derived.Test.YtilimgjmiijkiaaA14
import Derived.Test.YtilimgjmiijkiaaRows
namespace Go.Proofs.Ytilimgjmiijkiaa
open Go.ChangeShapes Go.WideShapes Go.ChangeAt Go.RowKit Go.Joins
attribute [local go_sem] BW.cell BW.frozen

set_option maxHeartbeats 1000000 in
theorem arounds_core (x y r u v a b c d : Int) (w : World)
    (hs : ∀ w, Calls Try.prog 43 #[.agg #[.int .i16 x, .int .i16 y], .int .i64 r] w (Gives (.agg #[.int .i16 a, .int .i16 b, .int .i16 c, .int .i16 d]) w))
    (hr : ∀ w, Calls Try.prog 42 #[.agg #[.int .i16 x, .int .i16 y], .int .i64 r] w (Gives (.agg #[.int .i16 a, .int .i16 b, .int .i16 c, .int .i16 d]) w)) :
    Calls Try.prog 16 #[.agg #[.int .i16 x, .int .i16 y], .int .i64 r, .agg #[.int .i16 u, .int .i16 v]] w (Gives (.bool true) w) := by
  have hi := inside_any u v a b c d
  have hj := rinside_any u v a b c d
  generalize ins u v a b c d = I at *
  have HS := Lib.hid hs
  have HR := Lib.hid hr
  have HI := Lib.hid hi
  have HJ := Lib.hid hj
  clear hs hr hi hj
  go_enter Try.func16, Try.ntmps16
  go_wp2_with fail
  refine (HR.out _).mono ?_
  rintro e w' ⟨rfl, z, rfl⟩
  have q0 : z.i.cell? ⟨w.heap.size, 0, none⟩ = some (.int .i16 x) := by rw [z.cell (by simp; omega)]; simp [go_sem]
  have q1 : z.i.cell? ⟨w.heap.size, 1, none⟩ = some (.int .i16 y) := by rw [z.cell (by simp; omega)]; simp [go_sem]
  have q2 : z.i.cell? ⟨w.heap.size + 1, 0, none⟩ = some (.int .i16 u) := by rw [z.cell (by simp)]; simp [go_sem]
  have q3 : z.i.cell? ⟨w.heap.size + 1, 1, none⟩ = some (.int .i16 v) := by rw [z.cell (by simp)]; simp [go_sem]
  have l1 : w.heap.size + 1 < z.i.heap.size := by have := z.size; simp at this; omega
  have l0 : w.heap.size < z.i.heap.size := by omega
  have bZ : Below w.heap.size w z.i := (((Below.refl _ w).alloc (Nat.le_refl _) _).alloc (by simp) _).trans (z.h.mono (by simp; omega))
  generalize z.i = Z at *
  clear z
  go_wp2
  refine wp_region_bw (Z.heap.size + 1) _ (Below.refl _ _) (by kernel_rfl) (by kernel_rfl) ?_
  repeat (go_big_quiet_step ((first
    | (go_at_call 43; exact Calls.bw_of (by simp) (HS.out _))
    | (go_at_call 44; exact Calls.bw_of (by simp) (HI.out _))
    | (go_at_call 45; exact Calls.bw_of (by simp) (HJ.out _))
    | (go_at_call 23; exact Calls.bw_of (by simp) (lives_any _)))))
  refine wpQuiet_nil ?_
  intro x
  go_wp2
  go_ret
  exact gives_of_eq rfl ((bZ.alloc bZ.size _).trans (x.h.mono (Nat.le_succ_of_le bZ.size)))

theorem arounds_law (x y r u v : Int) (w : World) (h1 : -32768 ≤ x) (h2 : x ≤ 32767) (h3 : -32768 ≤ y) (h4 : y ≤ 32767) :
    Calls Try.prog 16 #[.agg #[.int .i16 x, .int .i16 y], .int .i64 r, .agg #[.int .i16 u, .int .i16 v]] w (Gives (.bool true) w) :=
  arounds_core x y r u v _ _ _ _ w (fun w => around_any x y r w h1 h2 h3 h4) (fun w => raround_any x y r w h1 h2 h3 h4)

set_option maxRecDepth 100000 in
theorem arounds_lifted (os : Os) (started : os.Started) (H : Type) (enc : TypeId × Value → H) :
    ReturnsInHanded {} Try.checked os 16 .any (Rows.planeAroundsSpec.pre6 enc Try.prog Try.f16 Rows.planeAroundsRow.domain false) (Rows.planeAroundsSpec.post enc Try.prog Try.f16 false true false false) := by
  refine returnsInHanded_of_change (C := Try.checked) Try.own started (by kernel_rfl) Try.func16
    (ChangeSpec.witness6 (enc := enc) (C := Try.checked) false ⟨#[], #[.agg #[.int .i16 0, .int .i16 0], .int .i64 0, .agg #[.int .i16 0, .int .i16 0]], []⟩ 8 (by kernel_rfl) (by kernel_rfl) (by kernel_rfl) (by kernel_rfl)) ?_
  intro W base args ds gs before hval0 hW hcnd _
  have hval : ∀ (j : Nat) t v, Try.f16.params[j]? = some t → args[j]? = some v → Value.okWide Try.prog W .any base t v := hval0
  have hW' := hW
  obtain ⟨p, q, hA0, hV, rfl, hfz, hnd⟩ := hW
  have hA : DataW.TrodAll enc Try.prog W 0 (fun _ => true) true Try.f16.params.toList args.toList ds p := hA0
  rw [Try.params16] at hA hval
  obtain ⟨v0, v1, v2, d0, d1, d2, p0, p1, p2, rfl, rfl, rfl, h0, h1, h2⟩ := trodAll_three hA
  obtain ⟨rfl, rfl⟩ := trodVars_none hV
  obtain ⟨a0x, a0y, rfl, rfl, rfl, g00, g01, g02, g03⟩ := open_pt (hval 0 24 _ rfl rfl) h0
  obtain ⟨a1x, rfl, rfl, rfl, g10, g11⟩ := open_i (hval 1 3 _ rfl rfl) h1
  obtain ⟨a2x, a2y, rfl, rfl, rfl, g20, g21, g22, g23⟩ := open_pt (hval 2 24 _ rfl rfl) h2
  refine (arounds_law _ _ _ _ _ W g00 g01 g02 g03).mono fun e W2 ⟨he, x, hx⟩ => ⟨_, he, ?_⟩
  exact law_post hW' rfl rfl rfl (by kernel_rfl) (hx ▸ x.h)

theorem arounds_holds : Rows.PlaneAroundsSaid :=
  OpenClaim.holds_of_wide 16 Try.f16 rfl rfl rfl rfl rfl rfl rfl ⟨rfl, rfl, rfl, rfl, rfl⟩ rfl rfl rfl rfl rfl (by kernel_rfl) Try.func16 (by kernel_rfl)
    (of_decide_eq_true (by kernel_rfl)) (by unfold Func.isWrapper; rw [if_neg (of_decide_eq_false (by kernel_rfl))]; exact ⟨rfl, rfl⟩)
    (fun os started H enc _ => arounds_lifted os started H enc)
end Go.Proofs.Ytilimgjmiijkiaa
