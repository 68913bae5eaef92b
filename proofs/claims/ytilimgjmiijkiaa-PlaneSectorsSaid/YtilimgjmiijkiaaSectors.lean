/- PlaneSectors: the wind of a complex number is what the reference says. No conditions. -/
import Derived.Test.YtilimgjmiijkiaaL
import Derived.Test.YtilimgjmiijkiaaA12
import Derived.Test.YtilimgjmiijkiaaA14
import Derived.Test.YtilimgjmiijkiaaA15
import Derived.Test.YtilimgjmiijkiaaRows
namespace Go.Proofs.Ytilimgjmiijkiaa
open Go.ChangeShapes Go.WideShapes Go.ChangeAt Go.RowKit Go.Joins
attribute [local go_sem] BW.cell BW.frozen

set_option maxHeartbeats 1000000 in
theorem sectors_core (re im S : Int) (A B : Nat) (w : World) (H1 : ∀ w, (callFunc 32 #[.int .u64 re]).run Try.prog w = .ok (.value (.float .f64 A)) w) (H2 : ∀ w, (callFunc 32 #[.int .u64 im]).run Try.prog w = .ok (.value (.float .f64 B)) w)
    (hs : ∀ w, Calls Try.prog 39 #[.complex .f64 A B] w (Keeps (.int .i64 S) w))
    (hr : ∀ w, Calls Try.prog 40 #[.float .f64 A, .float .f64 B] w (Gives (.int .i64 S) w)) :
    Calls Try.prog 10 #[.int .u64 re, .int .u64 im] w (Gives (.bool true) w) := by
  have HS := Lib.hid hs
  have HR := Lib.hid hr
  clear hs hr
  go_enter Try.func10, Try.ntmps10
  go_wp2_with fail
  refine (HS.out _).mono ?_
  rintro e w' ⟨rfl, rfl⟩
  go_wp2_with fail
  refine (HR.out _).mono ?_
  rintro e w' ⟨rfl, z, rfl⟩
  go_wp2_with fail
  refine (lives_any _).mono ?_
  rintro e w' ⟨rfl, v, rfl⟩
  go_wp2
  go_ret
  exact gives_of_eq rfl (z.h.trans (v.h.mono z.size))

theorem sectors_law (re im : Int) (w : World) (h1 : 0 ≤ re) (h2 : re ≤ 18446744073709551615) (h3 : 0 ≤ im) (h4 : im ≤ 18446744073709551615) : Calls Try.prog 10 #[.int .u64 re, .int .u64 im] w (Gives (.bool true) w) := by
  obtain ⟨s, r, hr, e1⟩ := word_of re.toNat (by omega)
  obtain ⟨t, q, hq, e2⟩ := word_of im.toNat (by omega)
  have H1 := run_frombits re
  have H2 := run_frombits im
  rw [e1] at H1
  rw [e2] at H2
  exact sectors_core re im (sec s t r q) _ _ w H1 H2 (fun w => sector_any s t r q w hr hq) (fun w => rsector_any s t r q w hr hq)

set_option maxRecDepth 100000 in
theorem sectors_lifted (os : Os) (started : os.Started) (H : Type) (enc : TypeId × Value → H) :
    ReturnsInHanded {} Try.checked os 10 .any (Rows.planeSectorsSpec.pre6 enc Try.prog Try.f10 Rows.planeSectorsRow.domain false) (Rows.planeSectorsSpec.post enc Try.prog Try.f10 false true false false) := by
  refine returnsInHanded_of_change (C := Try.checked) Try.own started (by kernel_rfl) Try.func10
    (ChangeSpec.witness6 (enc := enc) (C := Try.checked) false ⟨#[], #[.int .u64 0, .int .u64 0], []⟩ 8 (by kernel_rfl) (by kernel_rfl) (by kernel_rfl) (by kernel_rfl)) ?_
  intro W base args ds gs before hval0 hW hcnd _
  have hval : ∀ (j : Nat) t v, Try.f10.params[j]? = some t → args[j]? = some v → Value.okWide Try.prog W .any base t v := hval0
  have hW' := hW
  obtain ⟨p, q, hA0, hV, rfl, hfz, hnd⟩ := hW
  have hA : DataW.TrodAll enc Try.prog W 0 (fun _ => true) true Try.f10.params.toList args.toList ds p := hA0
  rw [Try.params10] at hA hval
  obtain ⟨v0, v1, d0, d1, p0, p1, rfl, rfl, rfl, h0, h1⟩ := trodAll_two hA
  obtain ⟨rfl, rfl⟩ := trodVars_none hV
  obtain ⟨a0x, rfl, rfl, rfl, g00, g01⟩ := open_u (hval 0 44 _ rfl rfl) h0
  obtain ⟨a1x, rfl, rfl, rfl, g10, g11⟩ := open_u (hval 1 44 _ rfl rfl) h1
  refine (sectors_law _ _ W g00 g01 g10 g11).mono fun e W2 ⟨he, x, hx⟩ => ⟨_, he, ?_⟩
  exact law_post hW' rfl rfl rfl (by kernel_rfl) (hx ▸ x.h)

theorem sectors_holds : Rows.PlaneSectorsSaid :=
  OpenClaim.holds_of_wide 10 Try.f10 rfl rfl rfl rfl rfl rfl rfl ⟨rfl, rfl, rfl, rfl, rfl⟩ rfl rfl rfl rfl rfl (by kernel_rfl) Try.func10 (by kernel_rfl)
    (of_decide_eq_true (by kernel_rfl)) (by unfold Func.isWrapper; rw [if_neg (of_decide_eq_false (by kernel_rfl))]; exact ⟨rfl, rfl⟩)
    (fun os started H enc _ => sectors_lifted os started H enc)
end Go.Proofs.Ytilimgjmiijkiaa
