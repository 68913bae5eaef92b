/- An iterator over a slab of strings goes through what was there when one began to range, whatever is done to the slab meanwhile, and gone over again through what is there then. No conditions: any slots, any texts, any steps. -/
import Derived.Test.YtpnegofmebfcgaaV3
import Derived.Test.YtpnegofmebfcgaaRows
import Derived.Carry
namespace Go.Proofs.Ytpnegofmebfcgaa
open Go.ChangeShapes Go.WideShapes Go.ChangeAt Go.RowKit

set_option maxRecDepth 100000 in
theorem ranges_lifted (os : Os) (started : os.Started) (H : Type) (enc : TypeId × Value → H) :
    ReturnsInHanded {} Try.checked os 6 .any (Rows.slabRangesSpec.pre6 enc Try.prog Try.f6 Rows.slabRangesRow.domain false) (Rows.slabRangesSpec.post enc Try.prog Try.f6 false true false false) := by
  refine returnsInHanded_of_change (C := Try.checked) Try.own started (by kernel_rfl) Try.func6
    (ChangeSpec.witness6 (enc := enc) (C := Try.checked) false ⟨#[], #[.int .i64 0, .slice none 0 0, .slice none 0 0, .slice none 0 0], []⟩ 8 (by kernel_rfl) (by kernel_rfl) (by kernel_rfl) (by kernel_rfl)) ?_
  intro W base args ds gs before hval0 hW hcnd _
  have hval : ∀ (j : Nat) t v, Try.f6.params[j]? = some t → args[j]? = some v → Value.okWide Try.prog W .any base t v := hval0
  have hW' := hW
  obtain ⟨p, q, hA0, hV, rfl, hfz, hnd⟩ := hW
  have hA : DataW.TrodAll enc Try.prog W 0 (fun _ => true) true Try.f6.params.toList args.toList ds p := hA0
  rw [Try.params6] at hA hval
  obtain ⟨v0, v1, v2, v3, d0, d1, d2, d3, p0, p1, p2, p3, rfl, rfl, rfl, h0, h1, h2, h3⟩ := trodAll_four hA
  obtain ⟨rfl, rfl⟩ := trodVars_none hV
  obtain ⟨k, rfl, rfl, rfl, _⟩ := open_i (hval 0 3 _ rfl rfl) h0
  obtain ⟨A1, n1, c1, xs1, rfl, hc1, hp1, _, hd1⟩ := open_strs (hval 1 74 _ rfl rfl) h1
  obtain ⟨A2, n2, c2, xs2, rfl, hc2, hp2, _, hd2⟩ := open_ints (hval 2 22 _ rfl rfl) h2
  obtain ⟨A3, n3, c3, xs3, rfl, hc3, hp3, _, hd3⟩ := open_ops (hval 3 52 _ rfl rfl) h3
  have hn1 : n1 ≤ 9223372036854775807 := Nat.le_trans hc1 (cap_max Try.underlying74 h1)
  have hn2 : n2 ≤ 9223372036854775807 := Nat.le_trans hc2 (cap_max Try.underlying22 h2)
  have hn3 : n3 ≤ 9223372036854775807 := Nat.le_trans hc3 (cap_max Try.underlying52 h3)
  refine (ranges_core k A1 n1 c1 A2 n2 c2 A3 n3 c3 xs1 xs2 xs3 W hp1 hp2 hp3 hn1 hn3 hn2).mono fun e W2 ⟨he, x, hx⟩ => ⟨_, he, ?_⟩
  exact law_post hW' rfl rfl rfl (by kernel_rfl) (hx ▸ x.h)

theorem ranges_holds : Rows.SlabRangesSaid :=
  OpenClaim.holds_of_wide 6 Try.f6 rfl rfl rfl rfl rfl rfl rfl ⟨rfl, rfl, rfl, rfl, rfl⟩ rfl rfl rfl rfl rfl (by kernel_rfl) Try.func6 (by kernel_rfl)
    (of_decide_eq_true (by kernel_rfl)) (by unfold Func.isWrapper; rw [if_neg (of_decide_eq_false (by kernel_rfl))]; exact ⟨rfl, rfl⟩)
    (fun os started H enc _ => ranges_lifted os started H enc)
end Go.Proofs.Ytpnegofmebfcgaa
