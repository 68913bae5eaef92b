/- A slab of pointers hands each pointer on as the same one, by Get, by All and by Drop, whatever was dropped meanwhile. No conditions: any numbers, any drops. -/
import Derived.Test.YtpnegofmebfcgaaL3
import Derived.Test.YtpnegofmebfcgaaL5
import Derived.Test.YtpnegofmebfcgaaP3
import Derived.Test.YtpnegofmebfcgaaRows
namespace Go.Proofs.Ytpnegofmebfcgaa
open Go.ChangeShapes Go.WideShapes Go.ChangeAt Go.RowKit

set_option maxRecDepth 100000 in
theorem asis_lifted (os : Os) (started : os.Started) (H : Type) (enc : TypeId × Value → H) :
    ReturnsInHanded {} Try.checked os 3 .any (Rows.slabAsIsSpec.pre6 enc Try.prog Try.f3 Rows.slabAsIsRow.domain false) (Rows.slabAsIsSpec.post enc Try.prog Try.f3 false true false false) := by
  refine returnsInHanded_of_change (C := Try.checked) Try.own started (by kernel_rfl) Try.func3
    (ChangeSpec.witness6 (enc := enc) (C := Try.checked) false ⟨#[], #[.slice none 0 0, .slice none 0 0], []⟩ 8 (by kernel_rfl) (by kernel_rfl) (by kernel_rfl) (by kernel_rfl)) ?_
  intro W base args ds gs before hval0 hW hcnd _
  have hval : ∀ (j : Nat) t v, Try.f3.params[j]? = some t → args[j]? = some v → Value.okWide Try.prog W .any base t v := hval0
  have hW' := hW
  obtain ⟨p, q, hA0, hV, rfl, hfz, hnd⟩ := hW
  have hA : DataW.TrodAll enc Try.prog W 0 (fun _ => true) true Try.f3.params.toList args.toList ds p := hA0
  rw [Try.params3] at hA hval
  obtain ⟨v0, v1, d0, d1, p0, p1, rfl, rfl, rfl, h0, h1⟩ := trodAll_two hA
  obtain ⟨rfl, rfl⟩ := trodVars_none hV
  obtain ⟨A1, n1, c1, xs, rfl, hc1, hp1, _, _⟩ := open_ints (hval 0 22 _ rfl rfl) h0
  have hA1 := nil_cap Try.underlying22 h0
  have hm1 := cap_max Try.underlying22 h0
  obtain ⟨A2, n2, c2, ys, rfl, hc2, hp2, _, _⟩ := open_ints (hval 1 22 _ rfl rfl) h1
  have hm2 := cap_max Try.underlying22 h1
  refine (asis_core A1 n1 c1 A2 n2 c2 xs ys W hp1 hp2 (Nat.le_trans hc1 hm1) (Nat.le_trans hc2 hm2) hc1 hA1).mono fun e W2 ⟨he, x, hx⟩ => ⟨_, he, ?_⟩
  exact law_post hW' rfl rfl rfl (by kernel_rfl) (hx ▸ x.h)

theorem asis_holds : Rows.SlabAsIsSaid :=
  OpenClaim.holds_of_wide 3 Try.f3 rfl rfl rfl rfl rfl rfl rfl ⟨rfl, rfl, rfl, rfl, rfl⟩ rfl rfl rfl rfl rfl (by kernel_rfl) Try.func3 (by kernel_rfl)
    (of_decide_eq_true (by kernel_rfl)) (by unfold Func.isWrapper; rw [if_neg (of_decide_eq_false (by kernel_rfl))]; exact ⟨rfl, rfl⟩)
    (fun os started H enc _ => asis_lifted os started H enc)
end Go.Proofs.Ytpnegofmebfcgaa
