/- TopMore: one column more makes no row's price less and no other column's price more, and the matching is worth no less. No conditions: any graph, any weights. -/
import Derived.Test.YtikjelkehcnjmaaW24
import Derived.Test.YtikjelkehcnjmaaL
namespace Go.Proofs.Ytikjelkehcnjmaa
open Go.ChangeShapes Go.WideShapes Go.ChangeAt Go.RowKit
set_option maxRecDepth 100000 in
theorem more_lifted (os : Os) (started : os.Started) (H : Type) (enc : TypeId × Value → H) :
    ReturnsInHanded {} Try.checked os 3 .any (Rows.topMoreSpec.pre6 enc Try.prog Try.f3 Rows.topMoreRow.domain false) (Rows.topMoreSpec.post enc Try.prog Try.f3 false true false false) := by
  refine returnsInHanded_of_change (C := Try.checked) Try.own started (by kernel_rfl) Try.func3
    (ChangeSpec.witness6 (enc := enc) (C := Try.checked) false ⟨#[], #[.agg #[.int .i64 0, .int .i64 0, .slice none 0 0], .slice none 0 0], []⟩ 8 (by kernel_rfl) (by kernel_rfl) (by kernel_rfl) (by kernel_rfl)) ?_
  intro W base args ds gs before hval0 hW hcnd _
  have hval : ∀ (j : Nat) t v, Try.f3.params[j]? = some t → args[j]? = some v → Value.okWide Try.prog W .any base t v := hval0
  have hW' := hW
  obtain ⟨p, q, hA0, hV, rfl, hfz, hnd⟩ := hW
  have hA : DataW.TrodAll enc Try.prog W 0 (fun _ => true) true Try.f3.params.toList args.toList ds p := hA0
  rw [Try.params3] at hA hval
  obtain ⟨v0, v1, d0, d1, p0, p1, rfl, rfl, rfl, h0, h1⟩ := trodAll_two hA
  obtain ⟨rfl, rfl⟩ := trodVars_none hV
  obtain ⟨rows, cols, A, n, c, xs, rfl, hn, hR⟩ := open_g (hval 0 24 _ rfl rfl) h0
  obtain ⟨A2, n2, c2, ws, rfl, hn2, hWs, wb⟩ := open_ints (hval 1 25 _ rfl rfl) h1
  have core : Calls Try.prog 3 #[.agg (gv rows cols A n c), .slice A2 n2 c2] W (Gives (.bool true) W) := by
    by_cases hG : Gr rows cols xs
    · have s := hG.1
      unfold Sz at s
      obtain ⟨m, rfl⟩ : ∃ m : Nat, rows = m := ⟨rows.toNat, by omega⟩
      obtain ⟨k, rfl⟩ : ∃ k : Nat, cols = k := ⟨cols.toNat, by omega⟩
      exact more_ok hR hn hG hWs wb
    · exact more_no hR hn hG
  refine core.mono fun e W2 ⟨he, x, hx⟩ => ⟨_, he, ?_⟩
  exact law_post hW' rfl rfl rfl (by kernel_rfl) (hx ▸ x.h)
theorem more_holds : Rows.TopMoreSaid :=
  OpenClaim.holds_of_wide 3 Try.f3 rfl rfl rfl rfl rfl rfl rfl ⟨rfl, rfl, rfl, rfl, rfl⟩ rfl rfl rfl rfl rfl (by kernel_rfl) Try.func3 (by kernel_rfl)
    (of_decide_eq_true (by kernel_rfl)) (by unfold Func.isWrapper; rw [if_neg (of_decide_eq_false (by kernel_rfl))]; exact ⟨rfl, rfl⟩)
    (fun os started H enc _ => more_lifted os started H enc)
end Go.Proofs.Ytikjelkehcnjmaa
