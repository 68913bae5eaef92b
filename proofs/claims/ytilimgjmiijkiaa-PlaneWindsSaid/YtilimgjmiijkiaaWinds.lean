/- PlaneWinds: times i a displacement goes two winds on, turned about four, mirrored the other way. No conditions. -/
import Derived.Test.YtilimgjmiijkiaaL
import Derived.Test.YtilimgjmiijkiaaA12
import Derived.Test.YtilimgjmiijkiaaA14
import Derived.Test.YtilimgjmiijkiaaA15
import Derived.Test.YtilimgjmiijkiaaRows
namespace Go.Proofs.Ytilimgjmiijkiaa
open Go.ChangeShapes Go.WideShapes Go.ChangeAt Go.RowKit Go.Joins Ieee
attribute [local go_sem] BW.cell BW.frozen

set_option maxHeartbeats 2000000 in
theorem winds_core (re im a b c d : Int) (A B A' B' : Nat) (w : World) (H1 : ∀ w, (callFunc 32 #[.int .u64 re]).run Try.prog w = .ok (.value (.float .f64 A)) w) (H2 : ∀ w, (callFunc 32 #[.int .u64 im]).run Try.prog w = .ok (.value (.float .f64 B)) w)
    (n1 : Op.negFloat .f64 A = A') (n2 : Op.negFloat .f64 B = B')
    (h1 : ∀ w, Calls Try.prog 39 #[.complex .f64 A B] w (Keeps (.int .i64 a) w))
    (h2 : ∀ w, Calls Try.prog 39 #[.complex .f64 B' A] w (Keeps (.int .i64 b) w))
    (h3 : ∀ w, Calls Try.prog 39 #[.complex .f64 A' B'] w (Keeps (.int .i64 c) w))
    (h4 : ∀ w, Calls Try.prog 39 #[.complex .f64 A B'] w (Keeps (.int .i64 d) w))
    (h : (a = -1 ∧ b = -1 ∧ c = -1 ∧ d = -1) ∨ (a ≠ -1 ∧ 0 ≤ a ∧ a < 8 ∧ (a + 2).tmod 8 = b ∧ (a + 4).tmod 8 = c ∧ (8 - a).tmod 8 = d)) :
    Calls Try.prog 15 #[.int .u64 re, .int .u64 im] w (Gives (.bool true) w) := by
  have m1 : ∀ w : World, (Op.unary .neg (.float .f64 A)).run Try.prog w = .ok (.float .f64 A') w := fun _ => by rw [← n1]; rfl
  have m2 : ∀ w : World, (Op.unary .neg (.float .f64 B)).run Try.prog w = .ok (.float .f64 B') w := fun _ => by rw [← n2]; rfl
  clear n1 n2
  have K1 := Lib.hid h1
  have K2 := Lib.hid h2
  have K3 := Lib.hid h3
  have K4 := Lib.hid h4
  clear h1 h2 h3 h4
  rcases h with ⟨rfl, rfl, rfl, rfl⟩ | ⟨f0, f1, f2, f3, f4, f5⟩
  · go_enter Try.func15, Try.ntmps15
    go_wp2_with fail
    refine (K1.out _).mono ?_
    rintro e w' ⟨rfl, rfl⟩
    go_wp2_with fail
    refine (K2.out _).mono ?_
    rintro e w' ⟨rfl, rfl⟩
    go_wp2_with fail
    refine (K3.out _).mono ?_
    rintro e w' ⟨rfl, rfl⟩
    go_wp2_with fail
    refine (K4.out _).mono ?_
    rintro e w' ⟨rfl, rfl⟩
    go_wp2_with fail
    refine (lives_any _).mono ?_
    rintro e w' ⟨rfl, v, rfl⟩
    go_wp2
    go_ret
    exact gives_of_eq rfl v.h
  · go_enter Try.func15, Try.ntmps15
    go_wp2_with fail
    refine (K1.out _).mono ?_
    rintro e w' ⟨rfl, rfl⟩
    go_wp2_with fail
    refine (K2.out _).mono ?_
    rintro e w' ⟨rfl, rfl⟩
    go_wp2_with fail
    refine (K3.out _).mono ?_
    rintro e w' ⟨rfl, rfl⟩
    go_wp2_with fail
    refine (K4.out _).mono ?_
    rintro e w' ⟨rfl, rfl⟩
    go_wp2_with fail
    refine (lives_any _).mono ?_
    rintro e w' ⟨rfl, v, rfl⟩
    go_wp2
    go_ret
    exact gives_of_eq rfl v.h

theorem winds_law (re im : Int) (w : World) (h1 : 0 ≤ re) (h2 : re ≤ 18446744073709551615) (h3 : 0 ≤ im) (h4 : im ≤ 18446744073709551615) : Calls Try.prog 15 #[.int .u64 re, .int .u64 im] w (Gives (.bool true) w) := by
  obtain ⟨s, r, hr, e1⟩ := word_of re.toNat (by omega)
  obtain ⟨t, q, hq, e2⟩ := word_of im.toNat (by omega)
  have H1 := run_frombits re
  have H2 := run_frombits im
  rw [e1] at H1
  rw [e2] at H2
  refine winds_core re im (sec s t r q) (sec (!t) s q r) (sec (!s) (!t) r q) (sec s (!t) r q) _ _ _ _ w H1 H2 (neg_word s r hr) (neg_word t q hq) (fun w => sector_any _ _ _ _ w hr hq) (fun w => sector_any _ _ _ _ w hq hr) (fun w => sector_any _ _ _ _ w hr hq) (fun w => sector_any _ _ _ _ w hr hq) ?_
  rcases sec_lo s t r q with h | ⟨l1, l2⟩
  · exact .inl ⟨h, (sec_none s t _ _ r q h).2, (sec_none s t _ _ r q h).1, (sec_none s t _ _ r q h).1⟩
  · obtain ⟨a, b, c⟩ := sec_i s t r q (by omega)
    refine .inr ⟨by omega, l1, l2, ?_, ?_, ?_⟩
    · rw [a, Int.tmod_eq_emod_of_nonneg (by omega)]
    · rw [b, Int.tmod_eq_emod_of_nonneg (by omega)]
    · rw [c, Int.tmod_eq_emod_of_nonneg (by omega)]

set_option maxRecDepth 100000 in
theorem winds_lifted (os : Os) (started : os.Started) (H : Type) (enc : TypeId × Value → H) :
    ReturnsInHanded {} Try.checked os 15 .any (Rows.planeWindsSpec.pre6 enc Try.prog Try.f15 Rows.planeWindsRow.domain false) (Rows.planeWindsSpec.post enc Try.prog Try.f15 false true false false) := by
  refine returnsInHanded_of_change (C := Try.checked) Try.own started (by kernel_rfl) Try.func15
    (ChangeSpec.witness6 (enc := enc) (C := Try.checked) false ⟨#[], #[.int .u64 0, .int .u64 0], []⟩ 8 (by kernel_rfl) (by kernel_rfl) (by kernel_rfl) (by kernel_rfl)) ?_
  intro W base args ds gs before hval0 hW hcnd _
  have hval : ∀ (j : Nat) t v, Try.f15.params[j]? = some t → args[j]? = some v → Value.okWide Try.prog W .any base t v := hval0
  have hW' := hW
  obtain ⟨p, q, hA0, hV, rfl, hfz, hnd⟩ := hW
  have hA : DataW.TrodAll enc Try.prog W 0 (fun _ => true) true Try.f15.params.toList args.toList ds p := hA0
  rw [Try.params15] at hA hval
  obtain ⟨v0, v1, d0, d1, p0, p1, rfl, rfl, rfl, h0, h1⟩ := trodAll_two hA
  obtain ⟨rfl, rfl⟩ := trodVars_none hV
  obtain ⟨a0x, rfl, rfl, rfl, g00, g01⟩ := open_u (hval 0 44 _ rfl rfl) h0
  obtain ⟨a1x, rfl, rfl, rfl, g10, g11⟩ := open_u (hval 1 44 _ rfl rfl) h1
  refine (winds_law _ _ W g00 g01 g10 g11).mono fun e W2 ⟨he, x, hx⟩ => ⟨_, he, ?_⟩
  exact law_post hW' rfl rfl rfl (by kernel_rfl) (hx ▸ x.h)

theorem winds_holds : Rows.PlaneWindsSaid :=
  OpenClaim.holds_of_wide 15 Try.f15 rfl rfl rfl rfl rfl rfl rfl ⟨rfl, rfl, rfl, rfl, rfl⟩ rfl rfl rfl rfl rfl (by kernel_rfl) Try.func15 (by kernel_rfl)
    (of_decide_eq_true (by kernel_rfl)) (by unfold Func.isWrapper; rw [if_neg (of_decide_eq_false (by kernel_rfl))]; exact ⟨rfl, rfl⟩)
    (fun os started H enc _ => winds_lifted os started H enc)
end Go.Proofs.Ytilimgjmiijkiaa
